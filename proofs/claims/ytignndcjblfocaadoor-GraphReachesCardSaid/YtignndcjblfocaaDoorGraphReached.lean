/- graph.reached: the places to which ways lead from some. Conditions: a graph of at most 2^20 places in all rows. -/
import Derived.Test.YtignndcjblfocaaDoorGraphOrder
import Derived.Test.YtignndcjblfocaaDoorGraphDepths
import Derived.Laws.OwnMore
import Derived.WalkSpells
namespace Go.Proofs.YtignndcjblfocaaDoor
set_option linter.unusedVariables false
set_option linter.unusedSimpArgs false
open Go.RowKit Go.Proofs.YtignndcjblfocaaDoor.GraphPlain
theorem wpList_append_nil {P : Program} (w : World) {ops : Array Oper} {rest : List Oper} {o : Oper} {a : Act} {Q : Exit → Act → World → Prop} (hgd : o.guard = none) (s x : Operand) (t : TypeId)
    (ho : o.op = .call { callee := .builtin .append, args := #[s, x], argTypes := #[t, t] }) (base : Nat) (e : TypeId) (i : TypeInfo) (h1 : P.underlying t = some (.slice e)) (h2 : P.info? e = some i) (hsz : i.size = 1)
    (v : Value) (n : Nat) (xs : List Value) (hs : a.eval s = v) (hown : w.ownsRow base e 1 v n xs) (hx : a.eval x = .slice none 0 0)
    (h : wpList P ops Q rest (a.put o.dst v) w) : wpList P ops Q (o :: rest) a w := by
  refine wpList_plain hgd fun K' hK' => ?_
  have hrun := run_append_owned_none (P := P) (w := w) base t o.type e i 1 h1 h2 v n xs hown
  unfold Oper.wp
  simp [execOp, ho, hs, hx, resolve, invoke, builtin, hrun, Result.andThen]
  exact hK' _ _ h
theorem ownB_belowG {w w' : World} {base : Nat} {e : TypeId} {size : Nat} {v : Value} {n : Nat} {xs : List Value} (h : w.ownsRow base e size v n xs) (hb : Below w.heap.size w w') : w'.ownsRow base e size v n xs := by
  refine ⟨h.1, ?_⟩
  rcases h.2 with h2 | ⟨g, cap, cur, hv, hg, hh, r⟩
  · exact .inl h2
  · exact .inr ⟨g, cap, cur, hv, hg, (hb.block g (Array.getElem?_eq_some_iff.1 hh).1).trans hh, r⟩
/-- A row without its last cell. -/
theorem ownsRow_cut {w : World} {base n c : Nat} {e : TypeId} {A : Option Addr} {xs : List Value} {x : Value} (h : w.ownsRow base e 1 (.slice A (n + 1) c) (n + 1) (xs ++ [x])) : w.ownsRow base e 1 (.slice A n c) n xs := by
  have hl := h.1
  rw [List.length_append] at hl
  simp at hl
  refine ⟨by omega, ?_⟩
  rcases h.2 with ⟨h1, h2⟩ | ⟨g, cap, cur, hv, hg, hh, hle, hm, hcs, ht⟩
  · omega
  · cases hv
    refine .inr ⟨g, c, cur, rfl, hg, hh, by omega, hm, hcs, ?_⟩
    have e1 : cur.toList.take (n * 1) = (cur.toList.take ((n + 1) * 1)).take n := by rw [List.take_take]; congr 1; omega
    rw [e1, ht, List.take_append_of_le_length (by omega), List.take_of_length_le (by omega)]
def GrNil (w : World) (A : Option Addr) (n : Nat) : Prop := ∀ k, k < n → ∀ a m c, A = some a → w.cell? (a.add k) = some (.slice none m c) → c = 0
theorem GrNil.below {w w' : World} {A : Option Addr} {n : Nat} {R : List (List Int)} (h : GrNil w A n) (hg : GrAt w A n R) (hb : Below w.heap.size w w') : GrNil w' A n := by
  intro k hk a m c hA hc
  obtain ⟨a', B, r, c', hA', _, hlt, h0, _⟩ := hg.2 k hk
  rw [hA] at hA'
  cases hA'
  exact h k hk a m c hA (by rw [← hb.cell (p := a.add k) (by rw [addBlockT]; exact hlt)]; exact hc)
/-- A clone of a row of numbers. -/
def TellInts (l : List Int) (w : World) (e : Ending) (w' : World) : Prop := ∃ A c, e = .returned (.slice A l.length c) ∧ w'.ownsRow w.heap.size 3 1 (.slice A l.length c) l.length (numCells l) ∧ Below w.heap.size w w'
theorem eqIntsNil (a : Addr) (n c : Nat) (W : World) : (binOp .eql 35 (.slice (some a) n c) (.slice none 0 0)).run Tryd.prog W = .ok (.bool false) W := by kernel_rfl
theorem eqIntsNone (n c : Nat) (W : World) : (binOp .eql 35 (.slice none n c) (.slice none 0 0)).run Tryd.prog W = .ok (.bool true) W := by kernel_rfl
set_option maxRecDepth 100000 in
set_option maxHeartbeats 2000000 in
theorem cloneInts_any (A : Option Addr) (n c : Nat) (l : List Int) (w : World) (hl : IntsAt w A n l) (hn : n ≤ 1048576) :
    Calls Tryd.prog 41 #[.slice A n c] w (TellInts l w) := by
  obtain ⟨i0, hi0, hz0, hz1, hz2⟩ := info_parts Tryd.infoInt
  cases A with
  | none =>
    obtain rfl : n = 0 := by
      rcases Nat.eq_zero_or_pos n with h | h
      · exact h
      · obtain ⟨a, x, hA, _⟩ := hl.2 0 h; cases hA
    obtain rfl : l = [] := List.eq_nil_of_length_eq_zero hl.1
    clear hl
    have q0 := eqIntsNone 0 c
    go_enter Tryd.func41, Tryd.ntmps41
    go_wp2
    go_ret
    exact ⟨none, 0, rfl, World.ownsRow_nil _ _ _ _, Below.refl _ _⟩
  | some a =>
    have hlen := hl.1
    have hB : Below w.heap.size w (w.alloc (.cells #[] 3)) := (Below.refl _ w).alloc (Nat.le_refl _) _
    have HC2 : Hid (∀ (j : Nat) (u : Value), (numCells l)[j]? = some u → (w.alloc (.cells #[] 3)).cell? (a.add j) = some u) := by
      intro j u hj
      unfold numCells at hj
      rw [List.getElem?_map] at hj
      cases hx : l[j]? with
      | none => rw [hx] at hj; cases hj
      | some x =>
        rw [hx] at hj
        have hj : Value.int .i64 x = u := by simpa using hj
        subst hj
        obtain ⟨a', y, hA, hy, hb, h0⟩ := hl.2 j (by rw [← hlen]; exact (List.getElem?_eq_some_iff.1 hx).1)
        cases hA
        rw [hx] at hy
        cases hy
        exact (hB.cell (p := a.add j) (by rw [addBlockT]; exact hb)).trans h0
    have hO : (w.alloc (.cells #[] 3)).ownsRow w.heap.size 3 1 (.slice (some ⟨w.heap.size, 0, none⟩) 0 0) 0 [] := World.ownsRow_lit w #[] 0 (Nat.le_refl _) (by unfold maxLen; omega) rfl
    clear hl
    have q0 := eqIntsNil a n c
    go_enter Tryd.func41, Tryd.ntmps41
    go_wp2_with (at_builtin; refine wpList_append_own _ rfl (.tmp 5) (.tmp 6) 35 rfl w.heap.size 3 i0 (.int .i64 0) 1 8 Tryd.underlying35 hi0 hz0 hz1 hz2 rfl (by decide) _ 0 [] rfl hO a n c (numCells l) rfl (by unfold numCells; rw [List.length_map, hlen]; omega) HC2.out (by intro u hu; unfold numCells at hu; obtain ⟨x, _, rfl⟩ := List.mem_map.1 hu; rfl) (by unfold maxLen; omega) (by omega) (by simp) ?_)
    intro v' w2 hown' hgrow _
    have HB2 := hB.grown hgrow (by simp) (fun g hg => (hO.lt g hg).1)
    obtain ⟨A2, c2, rfl⟩ := own_shapeG hown'
    go_wp2
    go_ret
    subst hlen
    exact ⟨A2, c2, by simp, hown', HB2⟩
def total (G : Gr) : Nat := (G.map List.length).sum
theorem sumTo_le (G : Gr) (s : List Nat) : ∀ n, n ≤ G.length → sumTo G s n ≤ ((G.take n).map List.length).sum := by
  intro n
  induction n with
  | zero => intro _; exact Nat.zero_le _
  | succ n ih =>
    intro hn
    unfold sumTo
    have h1 := ih (by omega)
    have h2 : ((G.take (n + 1)).map List.length).sum = ((G.take n).map List.length).sum + (row G n).length := by
      rw [List.take_add_one, List.getElem?_eq_getElem (show n < G.length by omega)]
      unfold row
      rw [List.getD_eq_getElem?_getD, List.getElem?_eq_getElem (show n < G.length by omega), List.map_append, List.sum_append]
      simp only [Option.toList_some, List.map_cons, List.map_nil, List.sum_cons, List.sum_nil, Option.getD_some]
      omega
    split <;> omega
theorem row_total (G : Gr) (i : Nat) : (row G i).length ≤ total G := by
  unfold total row
  rw [List.getD_eq_getElem?_getD]
  cases h : G[i]? with
  | none => simp
  | some r =>
    simp only [Option.getD_some]
    have hm := List.mem_of_getElem? h
    clear h
    induction G with
    | nil => cases hm
    | cons x G ih =>
      rw [List.map_cons, List.sum_cons]
      rcases List.mem_cons.1 hm with rfl | hm
      · omega
      · have := ih hm; omega
theorem waitM_le (G : Gr) (s : List Nat) (f : Nat) : waitM G s (row G f) ≤ 2 * total G := by
  unfold waitM
  have h1 := row_total G f
  have h2 := sumTo_le G s G.length (Nat.le_refl _)
  rw [List.take_length] at h2
  unfold total at *
  omega
/-- Where ways lead. -/
def reachL (G : Gr) (f : Nat) : List Nat := (List.range G.length).filter fun x => mk (leadsN G f) x
def seenL (s : List Nat) (k : Nat) : List Nat := (List.range k).filter fun x => decide (0 < sn s x)
theorem seenL_next (s : List Nat) (k : Nat) : seenL s (k + 1) = if 0 < sn s k then seenL s k ++ [k] else seenL s k := by
  unfold seenL
  rw [List.range_succ, List.filter_append]
  by_cases h : 0 < sn s k
  · simp [h]
  · simp [h]
theorem seenL_end {G : Gr} (hG : okG G) {f : Nat} {s : List Nat} (h : Waits G f s []) : seenL s G.length = reachL G f := by
  unfold seenL reachL
  apply List.filter_congr
  intro x _
  have h1 := h.done x
  have h2 := leadsN_iff hG f x
  rw [Bool.eq_iff_iff, decide_eq_true_iff]
  constructor
  · intro h3; exact h2.2 (h1.1 (by omega))
  · intro h3; have := h1.2 (h2.1 h3); omega
theorem last_of {l : List Nat} (h : l ≠ []) : ∃ l' i, l = l' ++ [i] := ⟨l.dropLast, l.getLast h, (List.dropLast_concat_getLast h).symm⟩
theorem own_atG {w : World} {base n : Nat} {e : TypeId} {v : Value} {xs : List Value} (h : w.ownsRow base e 1 v (n + 1) xs) : ∃ g c, v = .slice (some ⟨g, 0, none⟩) (n + 1) c ∧ base ≤ g ∧ n + 1 ≤ c ∧ c ≤ 9223372036854775807 := by
  rcases h.2 with ⟨_, h2⟩ | ⟨g, cap, cur, hv, hg, _, hle, hm, _⟩
  · omega
  · exact ⟨g, cap, hv, hg, hle, by unfold maxLen at hm; exact hm⟩
set_option maxRecDepth 100000 in
set_option maxHeartbeats 16000000 in
theorem reached_any (An : Option Addr) (nn cn : Nat) (At : Option Addr) (nt ct : Nat) (G : Gr) (f : Nat) (w : World) (hg : GrAt w At nt (intG G)) (hnil : GrNil w At nt) (hok : okG G) (hM : total G ≤ 1048576) (hnt : nt ≤ 1048576) (hf : f < nt) :
    Calls Tryd.prog 32 #[grV An nn cn At nt ct, .int .i64 f] w fun e w' => ∃ A c, e = .returned (.slice A (reachL G f).length c) ∧ w'.ownsRow w.heap.size 3 1 (.slice A (reachL G f).length c) (reachL G f).length (natCells (reachL G f)) ∧ Below w.heap.size w w' := by
  obtain ⟨i0, hi0, hz0, hz1, hz2⟩ := info_parts Tryd.infoInt
  obtain ⟨W, hW, hB, hz, c0, c1⟩ := grBox w An nn cn At nt ct 28
  have GN := Lib.hid (hnil.below hg hB)
  have GA := Lib.hid (hg.below hB)
  have HB := Lib.hid hB
  have HN := Lib.hid (show G.length = nt by have := hg.1; unfold intG at this; simpa using this)
  have HOK := Lib.hid hok
  have hM0 := waitM_le G (List.replicate G.length 0) f
  have HTOT : Hid (∀ i, (row G i).length ≤ 1048576) := fun i => Nat.le_trans (row_total G i) hM
  clear hB hg hok hnil
  unfold grV
  go_enter Tryd.func32, Tryd.ntmps32
  go_wp2_with (at_make; refine wpList_make_full _ rfl _ _ 35 rfl (w.heap.size + 1) 3 i0 (.int .i64 0) 1 Tryd.underlying35 hi0 hz0 hz1 .i64 .i64 _ _ nt rfl rfl rfl rfl ?m1 ?m2 ?m3 ?_)
  case m1 => rw [hz2]; omega
  case m2 => unfold maxLen; omega
  case m3 => omega
  intro w1 hown hgrow
  have HS0 : Hid (w1.ownsRow (w.heap.size + 1) 3 1 (.slice (some ⟨w.heap.size + 1, 0, none⟩) nt nt) nt (natCells (List.replicate G.length 0))) := by
    show w1.ownsRow _ _ _ _ _ _
    rw [HN.out, natCells_rep, ← toList_madeCells_one, show (#[Value.int .i64 0] : Array Value) = (Value.int .i64 0).cells from rfl]
    simpa [hz, Value.cells] using hown
  have HB1 := Lib.hid ((Below.refl (w.heap.size + 1) W).grown hgrow (by omega) (fun k h => by cases h))
  clear hown hgrow
  have d1 := (HB1.out.cell (p := ⟨w.heap.size, 1, none⟩) (by show w.heap.size < _; omega)).trans c1
  obtain ⟨a, B, r, cr, ha, hx, hab, g0, gi⟩ := GA.out.2 f hf
  subst ha
  have g1 := (HB1.out.cell (p := a.add f) (by rw [addBlockT]; omega)).trans g0
  have hrr := (intG_at hx).1
  have hfr := HTOT.out f
  have C := Lib.hid (cloneInts_any B r.length cr r w1 (gi.below (by rw [hz]; exact HB1.out)) (by rw [hrr, List.length_map]; exact hfr))
  have b0 : (0 : Int) ≤ (f : Int) := by omega
  have b1 : (f : Int) < (nt : Int) := by omega
  have HRR := Lib.hid hrr
  have hsz1 := HB1.out.size
  clear hx g0 gi hrr
  go_wp2_with fail
  refine C.out.mono ?_
  rintro e w2 ⟨A6, c6, rfl, hown, hB2⟩
  have hs1 := (HS0.out.lt _ rfl).2
  have HS2 := Lib.hid (ownB_belowG HS0.out hB2)
  have HW0 : Hid (w2.ownsRow w1.heap.size 3 1 (.slice A6 r.length c6) (row G f).length (natCells (row G f))) := by
    show w2.ownsRow _ _ _ _ _ _
    rw [HRR.out, List.length_map] at hown
    have e : numCells ((row G f).map Int.ofNat) = natCells (row G f) := by simp [natCells, numCells]
    rw [e] at hown
    rw [HRR.out, List.length_map]; exact hown
  have HB2 := Lib.hid (HB1.out.trans (hB2.mono (by omega)))
  clear hown hB2 C d1 g1 HS0 HB1
  have eN : Hid (r.length = (row G f).length) := by show _ = _; rw [HRR.out, List.length_map]
  rw [eN.out] at HW0 ⊢
  have W0 := Waits.start G f
  obtain ⟨M0, hMM⟩ : ∃ M0, waitM G (List.replicate G.length 0) (row G f) = M0 := ⟨_, rfl⟩
  have BD0 : Hid (∀ x, sn (List.replicate G.length 0) x + waitM G (List.replicate G.length 0) (row G f) ≤ M0) := fun x => by rw [sn_zero, hMM]; omega
  rw [hMM] at hM0
  go_wp2_with fail
  go_loopg [6] M0 (fun g v6 wr => ∃ s wl, Hid (g = waitM G s wl) ∧ Hid (Waits G f s wl) ∧ Hid (∀ x, sn s x + waitM G s wl ≤ M0) ∧ Hid (wr.ownsRow w1.heap.size 3 1 v6 wl.length (natCells wl)) ∧ Hid (wr.ownsRow (w.heap.size + 1) 3 1 (.slice (some ⟨w.heap.size + 1, 0, none⟩) nt nt) nt (natCells s)) ∧ Hid (Below (w.heap.size + 1) W wr))
  case atStart => exact ⟨_, _, hMM.symm, W0, BD0, HW0, HS2, HB2⟩
  case round =>
    obtain ⟨s, wl, HGE, HWT, HBD, HWR, HSR, HBW⟩ := hrel
    clear W0 BD0 HW0 HS2 HB2 hMM
    cases hwl : wl with
    | nil =>
      subst hwl
      obtain ⟨A7, c7, rfl⟩ := own_shapeG HWR.out
      have HEND := Lib.hid (seenL_end HOK.out HWT.out)
      have hsl : s.length = nt := by rw [HWT.out.len, HN.out]
      have hbs : ∀ x, sn s x ≤ 2097152 := fun x => by have := HBD.out x; omega
      have HBS := Lib.hid hbs
      have HBWf := Lib.hid (HB.out.trans (HBW.out.mono (by omega)))
      clear hbs HWR HWT HBD HGE HBW
      obtain ⟨wo, rfl⟩ : ∃ wo : World, wo = wr := ⟨_, rfl⟩
      have R0 : Hid (wo.ownsRow wo.heap.size 3 1 (.slice none 0 0) (seenL s 0).length (natCells (seenL s 0))) := World.ownsRow_nil _ _ _ _
      go_wp2_with fail
      go_loopg [8, 55] nt (fun g v8 v55 wr => ∃ k : Nat, g + k = nt ∧ v55 = .int .i64 k ∧ Hid (wr.ownsRow wo.heap.size 3 1 v8 (seenL s k).length (natCells (seenL s k))) ∧ Hid (Below wo.heap.size wo wr))
      case atStart => exact ⟨0, rfl, rfl, R0, Below.refl _ _⟩
      case round =>
        obtain ⟨k, hgk, rfl, HR, HW⟩ := hrel
        obtain ⟨A8, c8, rfl⟩ := own_shapeG HR.out
        have hll : (seenL s k).length ≤ k := by
          have := List.length_filter_le (fun x => decide (0 < sn s x)) (List.range k)
          rw [List.length_range] at this; exact this
        by_cases hlt : k < nt
        · have b2 : (0 : Int) ≤ (k : Int) := by omega
          have b3 : (k : Int) < (nt : Int) := by omega
          have f0 := own_cellG (ownB_belowG HSR.out HW.out) (k := k) (by rw [hsl]; exact hlt)
          have HNX := Lib.hid (seenL_next s k)
          have hk := HBS.out k
          have hsz := HW.out.size
          by_cases hs0 : 0 < sn s k
          · have HN2 := Lib.hid (show seenL s (k + 1) = seenL s k ++ [k] by rw [HNX.out, if_pos hs0])
            generalize sn s k = u at *
            have t1 : (0 : Int) < (u : Int) := by omega
            clear hs0
            generalize seenL s k = l at *
            go_wp2_with (at_builtin; refine wpList_append_own _ rfl _ _ 35 rfl wo.heap.size 3 i0 (.int .i64 0) 1 8 Tryd.underlying35 hi0 hz0 hz1 hz2 rfl (by decide) _ _ _ rfl (HR.out.alloc _) ⟨_, 0, none⟩ 1 1 [.int .i64 k] rfl rfl ?c1 ?c2 ?c3 ?c4 ?c5 ?_)
            case c1 => exact oneCellG wr _ _
            case c2 => intro u hu; simp at hu; subst hu; rfl
            case c3 => unfold maxLen; omega
            case c4 => omega
            case c5 => simp; omega
            intro v' w3 hown' hgrow _
            have HR3 := Lib.hid hown'
            have HW3 := Lib.hid ((HW.out.alloc HW.out.size (.cells #[.int .i64 k] 3)).grown hgrow (by simp; omega) (fun g h => (HR.out.lt g h).1))
            clear hown' hgrow
            go_wp2
            go_roundg (gk - 1)
            case measure => omega
            case rel => exact ⟨k + 1, by omega, by go_num, by rw [HN2.out, natCells_snoc, List.length_append]; exact HR3.out, HW3⟩
          · have HN2 := Lib.hid (show seenL s (k + 1) = seenL s k by rw [HNX.out, if_neg hs0])
            generalize sn s k = u at *
            have t1 : ¬ (0 : Int) < (u : Int) := by omega
            have HR3 := HR.out
            rw [← HN2.out] at HR3
            have HR4 := Lib.hid HR3
            have eL : Hid ((seenL s (k + 1)).length = (seenL s k).length) := by show _ = _; rw [HN2.out]
            clear hs0 HR3
            go_wp2
            go_roundg (gk - 1)
            case measure => omega
            case rel => exact ⟨k + 1, by omega, by go_num, by rw [← eL.out]; exact HR4.out, HW⟩
        · obtain rfl : k = nt := by omega
          have e1 : seenL s k = reachL G f := by rw [← HN.out]; exact HEND.out
          have HE := Lib.hid e1
          clear e1
          have hbo := HBWf.out.size
          go_wp2
          go_ret
          rw [HE.out]
          have hR := HR.out
          rw [HE.out] at hR
          exact ⟨A8, c8, rfl, own_lowerG hR hbo, HBWf.out.trans (HW.out.mono hbo)⟩
    | cons y ys =>
      obtain ⟨wl', i, rfl⟩ := last_of (l := wl) (by rw [hwl]; simp)
      clear hwl
      have hge := HGE.out
      have hwi : Go.Proofs.YtignndcjblfocaaDoor.GraphPlain.Way G f i := HWT.out.wait i (by simp)
      have hiN : i < nt := by rw [← HN.out]; exact hwi.lt HOK.out
      have hsl : s.length = nt := by rw [HWT.out.len, HN.out]
      have hcnt := HBD.out i
      have hle : wl'.length + 1 ≤ M0 := by
        have := HBD.out 0
        unfold waitM at this
        rw [List.length_append] at this
        simp at this; omega
      have HWR' := HWR.out
      rw [List.length_append, List.length_singleton, natCells_snoc] at HWR'
      obtain ⟨g6, c6', e6, hg6, hc6, hm6⟩ := own_atG HWR'
      subst e6
      have k0 : wr.cell? ⟨g6, wl'.length, none⟩ = some (.int .i64 (i : Int)) := by
        have := HWR'.cells rfl wl'.length (.int .i64 (i : Int)) (by
          have hlenN : (natCells wl').length = wl'.length := by simp [natCells]
          rw [List.getElem?_append_right (by rw [hlenN]; exact Nat.le_refl _), hlenN, Nat.sub_self]; rfl)
        rwa [addT] at this
      have HCUT := Lib.hid (ownsRow_cut HWR')
      have f0 := own_cellG HSR.out (k := i) (by rw [hsl]; exact hiN)
      have f1 := HSR.out.frozenAt i
      have HST := HSR.out.stored i (.int .i64 ((sn s i + 1 : Nat) : Int))
      rw [natCells_set] at HST
      have HST1 := Lib.hid HST.1
      have HST2 := Lib.hid (HCUT.out.kept HST.2 (.inr (fun e => by have : g6 = w.heap.size + 1 := (by simpa [Value.ownBlock] using e); omega)))
      have HST3 := Lib.hid (HBW.out.setCell (p := ⟨w.heap.size + 1, i, none⟩) (Nat.le_refl _) (.int .i64 ((sn s i + 1 : Nat) : Int)))
      have d1 := (HBW.out.cell (p := ⟨w.heap.size, 1, none⟩) (by show w.heap.size < _; omega)).trans c1
      have b2 : (0 : Int) ≤ (i : Int) := by omega
      have b3 : (i : Int) < (nt : Int) := by omega
      have b4 : (0 : Int) ≤ (wl'.length : Int) := by omega
      have b5 : (wl'.length : Int) < (c6' : Int) := by omega
      have hcap : (c6' : Int) ≤ 9223372036854775807 := by omega
      clear HWR' HST HWR HSR
      by_cases hs0 : sn s i = 0
      · have HF := HWT.out.fresh HOK.out hs0
        have HAW := Lib.hid HF.1
        have HAM := Lib.hid HF.2
        have HBD2 : Hid (∀ x, sn (s.set i 1) x + waitM G (s.set i 1) (wl' ++ row G i) ≤ M0) := fun x => by
          have h1 := HBD.out x
          have h2 := HAM.out
          rw [sn_set]
          split
          · rename_i h; rw [h.1] at h1; omega
          · omega
        have hge2 : Hid (gk - 1 = waitM G (s.set i 1) (wl' ++ row G i)) := by have := HAM.out; show _ = _; omega
        have hgk0 : 0 < gk := by have := HAM.out; omega
        have hri := HTOT.out i
        clear HF hge
        rw [hs0] at f0 HST1 HST2 HST3
        obtain ⟨a', B', r', cr', ha', hx', hab', g0', gi'⟩ := GA.out.2 i hiN
        cases ha'
        have hab3 : (a.add i).block < w.heap.size + 1 := by rw [addBlockT]; omega
        have g3 := ((HBW.out.setCell (p := ⟨w.heap.size + 1, i, none⟩) (Nat.le_refl _) (.int .i64 ((0 + 1 : Nat) : Int))).cell hab3).trans g0'
        have d3 := ((HBW.out.setCell (p := ⟨w.heap.size + 1, i, none⟩) (Nat.le_refl _) (.int .i64 ((0 + 1 : Nat) : Int))).cell (p := ⟨w.heap.size, 1, none⟩) (by show w.heap.size < _; omega)).trans c1
        have hr' := (intG_at hx').1
        have hlr : r'.length = (row G i).length := by rw [hr', List.length_map]
        have eC : Hid (numCells r' = natCells (row G i)) := by show _ = _; rw [hr']; simp [natCells, numCells]
        have HI' := Lib.hid (gi'.below (by rw [hz]; exact HST3.out))
        have u0 : ((0 + 1 : Nat) : Int) = 1 := rfl
        have u1 : ((0 : Nat) : Int) + 1 = 1 := rfl
        have hcn := GN.out i hiN a
        have G0 := Lib.hid g0'
        clear hx' g0' gi' hr' d1
        cases B' with
        | none =>
          have h0 : r'.length = 0 := by
            rcases Nat.eq_zero_or_pos r'.length with h | h
            · exact h
            · obtain ⟨q, _, hq, _⟩ := HI'.out.2 0 h; cases hq
          have hc0 := hcn _ _ rfl G0.out
          have hrow0 : row G i = [] := List.eq_nil_of_length_eq_zero (by omega)
          subst hc0
          rw [h0] at g3
          have HR0 := Lib.hid hrow0
          rw [u0] at HST1 HST2 HST3 g3 d3
          clear HI' hcn hrow0 G0
          go_wp2_with (at_builtin; refine wpList_append_nil _ rfl (.tmp 46) (.tmp 51) 35 rfl w1.heap.size 3 i0 Tryd.underlying35 hi0 hz1 (.slice (some ⟨g6, 0, none⟩) wl'.length c6') wl'.length (natCells wl') rfl HST2.out rfl ?_)
          go_wp2
          go_roundg (gk - 1)
          case measure => omega
          case rel => exact ⟨_, wl' ++ row G i, hge2, HAW, HBD2, by rw [HR0.out, List.append_nil]; exact HST2.out, HST1, HST3⟩
        | some bB =>
          have HC2 : Hid (∀ (j : Nat) (u : Value), (numCells r')[j]? = some u → (wr.setCell ⟨w.heap.size + 1, i, none⟩ (.int .i64 ((0 + 1 : Nat) : Int))).cell? (bB.add j) = some u) := by
            intro j u hj
            unfold numCells at hj
            rw [List.getElem?_map] at hj
            cases hx : r'[j]? with
            | none => rw [hx] at hj; cases hj
            | some x =>
              rw [hx] at hj
              have hj : Value.int .i64 x = u := by simpa using hj
              subst hj
              obtain ⟨a', y, hA, hy, hb, h0⟩ := HI'.out.2 j (List.getElem?_eq_some_iff.1 hx).1
              cases hA
              rw [hx] at hy
              cases hy
              exact h0
          rw [u0] at HST1 HST2 HST3 HC2 g3 d3
          have hbase : w1.heap.size ≤ (wr.setCell ⟨w.heap.size + 1, i, none⟩ (.int .i64 1)).heap.size := Nat.le_trans (HST2.out.lt g6 rfl).1 (Nat.le_of_lt (HST2.out.lt g6 rfl).2)
          have hrl' : r'.length ≤ 1048576 := by omega
          have HLR := Lib.hid hlr
          clear HI' hcn hlr
          go_wp2_with (at_builtin; refine wpList_append_own _ rfl (.tmp 46) (.tmp 51) 35 rfl w1.heap.size 3 i0 (.int .i64 0) 1 8 Tryd.underlying35 hi0 hz0 hz1 hz2 rfl (by decide) _ wl'.length (natCells wl') rfl HST2.out bB r'.length cr' (numCells r') rfl (by simp [numCells]) HC2.out (by intro u hu; unfold numCells at hu; obtain ⟨x, _, rfl⟩ := List.mem_map.1 hu; rfl) (by unfold maxLen; omega) (by omega) hbase ?_)
          intro v' w5 hown' hgrow _
          have HW5 : Hid (w5.ownsRow w1.heap.size 3 1 v' (wl' ++ row G i).length (natCells (wl' ++ row G i))) := by
            show w5.ownsRow _ _ _ _ _ _
            rw [eC.out] at hown'
            rw [List.length_append, ← HLR.out, show natCells (wl' ++ row G i) = natCells wl' ++ natCells (row G i) by simp [natCells]]; exact hown'
          have HS5 := Lib.hid (HST1.out.kept hgrow (.inr (fun e => by have : w.heap.size + 1 = g6 := (by simpa [Value.ownBlock] using e); omega)))
          have HB5 := Lib.hid (HST3.out.grown hgrow (by have := HST3.out.size; omega) (fun g h => by have : g6 = g := (by simpa [Value.ownBlock] using h); omega))
          clear hown' hgrow
          go_wp2
          go_roundg (gk - 1)
          case measure => omega
          case rel => exact ⟨_, wl' ++ row G i, hge2, HAW, HBD2, HW5, HS5, HB5⟩
      · have HA := HWT.out.again hs0
        have HAW := Lib.hid HA.1
        have HAM := Lib.hid HA.2
        have HBD2 : Hid (∀ x, sn (s.set i (sn s i + 1)) x + waitM G (s.set i (sn s i + 1)) wl' ≤ M0) := fun x => by
          have h1 := HBD.out x
          have h2 := HAM.out
          rw [sn_set]
          split
          · rename_i h; rw [h.1] at h1; omega
          · omega
        have hge2 : Hid (gk - 1 = waitM G (s.set i (sn s i + 1)) wl') := by have := HAM.out; show _ = _; omega
        have hgk0 : 0 < gk := by have := HAM.out; omega
        clear HA hge
        generalize hsn : sn s i = u at *
        have t1 : ¬ ((u : Int) + 1 = 1) := by omega
        have hun : ((u + 1 : Nat) : Int) = (u : Int) + 1 := by omega
        rw [hun] at HST1 HST2 HST3
        clear hun
        go_wp2_with fail
        go_roundg (gk - 1)
        case measure => omega
        case rel => exact ⟨_, wl', hge2, HAW, HBD2, HST2, HST1, HST3⟩
end Go.Proofs.YtignndcjblfocaaDoor
