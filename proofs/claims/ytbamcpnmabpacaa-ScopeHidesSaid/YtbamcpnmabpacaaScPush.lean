/- The contracts of slices.Clone at what is bound, and of scope's Push. Conditions: at most 2^20 of each. -/
import Derived.Test.YtbamcpnmabpacaaScFn
import Derived.Test.YtbamcpnmabpacaaRegLate
import Derived.Laws.OwnMore
import Derived.Maps.AppendAt
import Derived.Deep.RegionHeld3
namespace Go.Proofs.Ytbamcpnmabpacaa
open Go.RowKit
set_option linter.unusedVariables false
set_option linter.unusedSimpArgs false
theorem grown_refl (w : World) (row : Option Nat) : w.grownBy w row := ⟨rfl, rfl, rfl, Nat.le_refl _, fun _ _ _ => rfl⟩
/-- What is appended: nothing of nil, or the cells behind an address. -/
def Source (w : World) (A : Option Addr) (m c : Nat) (news : List Value) : Prop := (A = none → m = 0 ∧ c = 0) ∧ ∀ ad, A = some ad → ∀ j u, news[j]? = some u → w.cell? (ad.add j) = some u
theorem Source.of_own {w : World} {base n c size : Nat} {e : TypeId} {A : Option Addr} {xs : List Value} (h : w.ownsRow base e size (.slice A n c) n xs) : Source w A n c xs := by
  rcases h.2 with ⟨h1, h2⟩ | ⟨g, cap, cur, h1, _⟩
  · cases h1; exact ⟨fun _ => ⟨rfl, rfl⟩, fun ad h => by cases h⟩
  · cases h1; exact ⟨fun h => (by cases h), fun ad hA j u hj => by cases hA; exact h.cells rfl j u hj⟩
theorem Source.below {w w' : World} {A : Option Addr} {m c : Nat} {news : List Value} (h : Source w A m c news) (hA : ∀ ad, A = some ad → ad.block < w.heap.size) (hb : Below w.heap.size w w') : Source w' A m c news :=
  ⟨h.1, fun ad e j u hj => (hb.cell (by rw [addBlockS]; exact hA ad e)).trans (h.2 ad e j u hj)⟩
theorem wpList_append_src {P : Program} {w : World} {ops : Array Oper} {rest : List Oper} {o : Oper} {a : Act} {Q : Exit → Act → World → Prop} (hgd : o.guard = none) (s x : Operand) (t : TypeId)
    (ho : o.op = .call { callee := .builtin .append, args := #[s, x], argTypes := #[t, t] })
    (base : Nat) (e : TypeId) (i : TypeInfo) (z : Value) (size bytes : Nat) (ht : P.underlying t = some (.slice e)) (hi : P.info? e = some i) (hz : i.zero = some z)
    (hsize : i.size = size) (hby : i.bytes = bytes) (hzs : z.cells.size = size) (hsz : 0 < size)
    (v : Value) (n : Nat) (xs : List Value) (hs : a.eval s = v) (hown : w.ownsRow base e size v n xs)
    (A : Option Addr) (m c : Nat) (news : List Value) (hx : a.eval x = .slice A m c) (hl : news.length = m * size) (hc : Source w A m c news) (h1 : ∀ u ∈ news, u.oneCell' = true)
    (h63 : n + m ≤ maxLen) (hbytes : (n + m) * bytes ≤ 140737488355328) (hbase : base ≤ w.heap.size)
    (h : ∀ v' w', w'.ownsRow base e size v' (n + m) (xs ++ news) → w.grownBy w' v.ownBlock → (v'.ownBlock = v.ownBlock ∨ v'.ownBlock = some w.heap.size) → wpList P ops Q rest (a.put o.dst v') w') :
    wpList P ops Q (o :: rest) a w := by
  refine wpList_plain hgd fun K hK => ?_
  cases A with
  | none =>
    obtain ⟨rfl, rfl⟩ := hc.1 rfl
    obtain rfl : news = [] := List.eq_nil_of_length_eq_zero (by rw [hl]; omega)
    have hr := run_append_owned_none (P := P) (w := w) base t o.type e i size ht hi v n xs hown
    unfold Oper.wp execOp
    simp only [ho, resolve, invoke, builtin, Sem.run_bind, Sem.run_pure, Result.andThen_ok, List.map_toArray, List.map_cons, List.map_nil, hs, hx, hr]
    exact hK _ _ (h v w (by simpa using hown) (grown_refl _ _) (.inl rfl))
  | some ad =>
    obtain ⟨v', w', hr, h2, h3, h4, h5⟩ := run_append_own_at (P := P) (w := w) base t o.type e i z size bytes ht hi hz hsize hby hzs hsz v n xs hown ad m c news hl (hc.2 ad rfl) h1 h63 hbytes hbase
    unfold Oper.wp execOp
    simp only [ho, resolve, invoke, builtin, Sem.run_bind, Sem.run_pure, Result.andThen_ok, List.map_toArray, List.map_cons, List.map_nil, hs, hx, hr]
    exact hK _ _ (h v' w' h2 h3 h5)
theorem info_partsS {o : Option TypeInfo} {z : Option Value} {s b : Nat} (h : o.map (fun i => (i.zero, i.size, i.bytes)) = some (z, s, b)) : ∃ i, o = some i ∧ i.zero = z ∧ i.size = s ∧ i.bytes = b := by
  cases o with
  | none => cases h
  | some i => simp at h; exact ⟨i, rfl, h.1, h.2.1, h.2.2⟩
theorem Try.infoBd : (Try.prog.info? 40).map (fun i => (i.zero, i.size, i.bytes)) = some (some (.agg #[.string ByteArray.empty, .string ByteArray.empty]), 2, 32) := by kernel_rfl
theorem emptyS_own (w : World) (base : Nat) (t : TypeId) (size : Nat) (hb : base ≤ w.heap.size) : (w.alloc (.cells #[] t)).ownsRow base t size (.slice (some ⟨w.heap.size, 0, none⟩) 0 0) 0 [] :=
  World.ownsRow_lit w #[] 0 hb (by unfold maxLen; omega) (by simp)
theorem addAt (a : Addr) (i j : Nat) (hj : 0 < j) : (⟨(a.add i).block, (a.add i).off + j, none⟩ : Addr) = a.add (i + j) := by
  unfold Addr.add
  by_cases hi : i = 0
  · subst hi; simp; omega
  · simp [hi]; omega
theorem eqSliceNil (a : Addr) (n c : Nat) (W : World) : (binOp .eql 32 (.slice (some a) n c) (.slice none 0 0)).run Try.prog W = .ok (.bool false) W := by kernel_rfl
theorem eqSliceNone (n c : Nat) (W : World) : (binOp .eql 32 (.slice none n c) (.slice none 0 0)).run Try.prog W = .ok (.bool true) W := by kernel_rfl
theorem src_bds {w : World} {A : Option Addr} {c : Nat} {l : List Bd} (h : BdsAt w A l.length l) (hA : A = none → c = 0) : Source w A l.length c (bdCells l) := by
  refine ⟨fun e => ⟨?_, hA e⟩, fun ad e j u hj => ?_⟩
  · subst e
    rcases Nat.eq_zero_or_pos l.length with h0 | h0
    · exact h0
    · obtain ⟨a, _, e, _⟩ := h.2 0 h0; cases e
  · subst e
    have hjl : j < l.length * 2 := by rw [← bdCells_len]; exact (List.getElem?_eq_some_iff.1 hj).1
    have hi : j / 2 < l.length := by omega
    obtain ⟨a, x, e1, hx, hat⟩ := h.2 (j / 2) hi
    injection e1 with e1
    subst e1
    obtain ⟨p0, p1⟩ := bdCells_at l (j / 2) x hx
    obtain ⟨_, q0, q1⟩ := hat
    rcases Nat.mod_two_eq_zero_or_one j with hm | hm
    · have ej : j / 2 * 2 = j := by omega
      rw [ej] at p0 q0
      rw [p0] at hj
      injection hj with hj
      subst hj
      exact q0
    · have ej : j / 2 * 2 + 1 = j := by omega
      rw [ej] at p1
      rw [p1] at hj
      injection hj with hj
      subst hj
      rw [← ej, ← addAt ad (j / 2 * 2) 1 (by omega)]
      exact q1
def TellBd (l : List Bd) (w : World) (e : Ending) (w' : World) : Prop := ∃ R c, e = .returned (.slice R l.length c) ∧ w'.ownsRow w.heap.size 40 2 (.slice R l.length c) l.length (bdCells l) ∧ Below w.heap.size w w'
set_option maxRecDepth 100000 in
set_option maxHeartbeats 2000000 in
theorem cloneBds_any (A : Option Addr) (c : Nat) (l : List Bd) (w : World) (h : BdsAt w A l.length l) (hA : A = none → c = 0) (hn : l.length ≤ 1048576) :
    Calls Try.prog 21 #[.slice A l.length c] w (TellBd l w) := by
  obtain ⟨i0, hi0, hz0, hz1, hz2⟩ := info_partsS Try.infoBd
  cases A with
  | none =>
    have h0 : l.length = 0 := by
      rcases Nat.eq_zero_or_pos l.length with h0 | h0
      · exact h0
      · obtain ⟨a, _, e, _⟩ := h.2 0 h0; cases e
    obtain rfl : l = [] := List.eq_nil_of_length_eq_zero h0
    obtain rfl := hA rfl
    clear h hA hn h0
    have q0 := eqSliceNone 0 0
    go_enter Try.func21, Try.ntmps21
    go_wp2
    go_ret
    exact ⟨none, 0, rfl, World.ownsRow_nil _ _ _ _, Below.refl _ _⟩
  | some ad =>
    have D1 := Lib.hid ((Below.refl w.heap.size w).alloc (Nat.le_refl _) (.cells #[] 40))
    have HO1 := Lib.hid (emptyS_own w w.heap.size 40 2 (Nat.le_refl _))
    have SR1 := Lib.hid (src_bds (c := c) (h.below D1.out) hA)
    have LEN := Lib.hid (bdCells_len l)
    have q0 := eqSliceNil ad l.length c
    clear h hA
    go_enter Try.func21, Try.ntmps21
    go_wp2_with (at_builtin; refine wpList_append_src rfl (.tmp 5) (.tmp 6) 32 rfl w.heap.size 40 i0 (.agg #[.string ByteArray.empty, .string ByteArray.empty]) 2 32 Try.underlying32 hi0 hz0 hz1 hz2 rfl (by decide) _ 0 [] rfl HO1.out (some ad) l.length c (bdCells l) rfl LEN.out SR1.out bd_one (by unfold maxLen; omega) (by omega) D1.out.size ?_)
    intro v3 w3 ho3 hg3 _
    obtain ⟨A9, c9, rfl, -, -, -⟩ := ownS_shape ho3
    have D2 := Lib.hid (D1.out.grown hg3 D1.out.size (fun g h => (ownS_blk HO1.out h).2.1))
    have HO := Lib.hid ho3
    clear ho3 hg3
    go_wp2
    go_ret
    exact ⟨A9, c9, rfl, HO.out, D2.out⟩
theorem pushS_nil (v : Value) (w : World) : Calls Try.prog 15 #[.pointer none, v] w (RetS (.tuple #[]) w) := by
  go_enter Try.func15, Try.ntmps15
  go_wp2
  refine bodyPost_ret (v := .tuple #[]) (by simp [results, Try.results15, go_sem]) rfl ?_
  exact ⟨rfl, rfl⟩
def PushS (base g : Nat) (fs : List (List Bd)) (l : List Bd) (w : World) (e : Ending) (w' : World) : Prop := e = .returned (.tuple #[]) ∧ (∃ q, ScAt w' base g (l :: fs) q) ∧ KeepS w w' g
theorem frBox (w : World) (cs : Array Value) (t : TypeId) : ∃ W, w.alloc (.cells cs t) = W ∧ Below w.heap.size w W ∧ W.heap[w.heap.size]? = some (.cells cs t (0, 0)) ∧ w.heap.size < W.heap.size :=
  ⟨_, rfl, (Below.refl _ w).alloc (Nat.le_refl _) _, World.alloc_heap_new w _, by simp⟩
set_option maxRecDepth 100000 in
set_option maxHeartbeats 2000000 in
theorem pushS_any (base g : Nat) (fs : List (List Bd)) (p : Option Addr) (A : Option Addr) (c : Nat) (l : List Bd) (w : World) (h : ScAt w base g fs p) (hl : BdsAt w A l.length l) (hA : A = none → c = 0) (hn : l.length ≤ 1048576) (hfs : fs.length ≤ 1048576) (hb : base ≤ w.heap.size) :
    Calls Try.prog 15 #[.pointer (some ⟨g, 0, none⟩), .slice A l.length c] w (PushS base g fs l w) := by
  have H := Lib.hid h
  have HD : Hid (Below w.heap.size w w.drew) := Lib.hid ((Below.refl _ w).trans ⟨rfl, rfl, rfl, Nat.le_refl _, fun _ _ => rfl⟩)
  have HW := Lib.hid (h.below HD.out)
  have C := Lib.hid (cloneBds_any A c l w.drew (hl.below HD.out) hA hn)
  obtain ⟨c0, c1, f0, f1⟩ := HW.out.c0
  clear h hl
  go_enter Try.func15, Try.ntmps15
  go_wp2_with fail
  refine wp_region_late [(11, fun w' => w'.cell? ⟨g, 0, none⟩ = some (.pointer p))] (by kernel_rfl) ⟨.inr c0, trivial⟩ (fun hC0 => ?_)
  have HS0 : Hid (base ≤ w.drew.heap.size) := Lib.hid (Nat.le_trans hb HD.out.size)
  generalize w.drew = W0 at *
  --REG (*narthex/scope.Scope).Push:1 0 1 3 4 5 6@0
  refine wpAnyL_pure (i := 0) (oi := ({ dst := some 6, op := Op.move (Operand.tmp 0), type := 25, pos := "scope.go:36", after := #[], guard := none } : Oper)) (v := ?_) rfl (by kernel_rfl) (by kernel_rfl) (by kernel_rfl) (by kernel_rfl) (fun _ _ _ h => h) (Or.inl ⟨by rfl, ?_⟩) (by assumption) (by kernel_rfl) ?_
  rotate_left 1
  · intro w hSw; clear hSw; go_simp; try with_reducible rfl
  (try simp only [Act.put, List.setIfInBounds_toArray, List.set_cons_zero, List.set_cons_succ])
  refine wpAnyL_pure (i := 1) (oi := ({ dst := some 7, op := Op.move (Operand.tmp 1), type := 32, pos := "scope.go:36", after := #[], guard := none } : Oper)) (v := ?_) rfl (by kernel_rfl) (by kernel_rfl) (by kernel_rfl) (by kernel_rfl) (fun _ _ _ h => h) (Or.inl ⟨by rfl, ?_⟩) (by assumption) (by kernel_rfl) ?_
  rotate_left 1
  · intro w hSw; clear hSw; go_simp; try with_reducible rfl
  (try simp only [Act.put, List.setIfInBounds_toArray, List.set_cons_zero, List.set_cons_succ])
  refine wpAnyL_pure (i := 3) (oi := ({ dst := some 9, op := Op.move (Operand.tmp 0), type := 25, pos := "scope.go:36", after := #[], guard := none } : Oper)) (v := ?_) rfl (by kernel_rfl) (by kernel_rfl) (by kernel_rfl) (by kernel_rfl) (fun _ _ _ h => h) (Or.inl ⟨by rfl, ?_⟩) (by assumption) (by kernel_rfl) ?_
  rotate_left 1
  · intro w hSw; clear hSw; go_simp; try with_reducible rfl
  (try simp only [Act.put, List.setIfInBounds_toArray, List.set_cons_zero, List.set_cons_succ])
  refine wpAnyL_pure (i := 4) (oi := ({ dst := some 10, op := Op.nilCheck (Operand.tmp 9), type := 0, pos := "scope.go:36", after := #[{ on := 3, ground := Ground.data }], guard := none } : Oper)) (v := ?_) rfl (by kernel_rfl) (by kernel_rfl) (by kernel_rfl) (by kernel_rfl) (fun _ _ _ h => h) (Or.inl ⟨by rfl, ?_⟩) (by assumption) (by kernel_rfl) ?_
  rotate_left 1
  · intro w hSw; clear hSw; go_simp; try with_reducible rfl
  (try simp only [Act.put, List.setIfInBounds_toArray, List.set_cons_zero, List.set_cons_succ])
  refine wpAnyL_pure (i := 5) (oi := ({ dst := some 11, op := Op.fieldAddr 46 (Operand.tmp 10) 0, type := 0, pos := "scope.go:36", after := #[{ on := 4, ground := Ground.data }], guard := none } : Oper)) (v := ?_) rfl (by kernel_rfl) (by kernel_rfl) (by kernel_rfl) (by kernel_rfl) (fun _ _ _ h => h) (Or.inl ⟨by rfl, ?_⟩) (by assumption) (by kernel_rfl) ?_
  rotate_left 1
  · intro w hSw; clear hSw; go_simp; try with_reducible rfl
  (try simp only [Act.put, List.setIfInBounds_toArray, List.set_cons_zero, List.set_cons_succ])
  refine wpAnyL_take (i := 6) 0 (oi := ({ dst := some 12, op := Op.load 44 (Operand.tmp 11), type := 44, pos := "scope.go:36", after := #[{ on := 5, ground := Ground.data }], guard := none } : Oper)) (v := ?_) rfl (by kernel_rfl) (by kernel_rfl) (by kernel_rfl) rfl (by kernel_rfl) (by kernel_rfl) (by kernel_rfl) (fun _ _ _ h => h) (Or.inl ⟨by rfl, ?_⟩) (by assumption) (by kernel_rfl) ?_
  rotate_left 1
  · intro w hSw; (try dsimp only at hSw); go_simp; try with_reducible rfl
  (try simp only [Act.put, List.setIfInBounds_toArray, List.set_cons_zero, List.set_cons_succ])
  --END
  refine wpAnyL_ready (rs := [2]) (by kernel_rfl) (by simp) ?_
  refine AllReadyL.cons (o := _) rfl (fun K hK => ?_) AllReadyL.nil
  go_simp
  refine C.out.mono ?_
  rintro e w2 ⟨R, c2, rfl, hown, hB2⟩
  have H2 := Lib.hid (HW.out.below hB2)
  have HB2 := Lib.hid hB2
  have HO2 := Lib.hid hown
  refine hK.out _ _ ⟨.inr H2.out.c0.1, trivial⟩ (fun hC0 => ?_)
  clear hK K hB2 hown
  (try simp only [Act.put, List.setIfInBounds_toArray, List.set_cons_zero, List.set_cons_succ])
  --REG (*narthex/scope.Scope).Push:1 7
  refine wpAnyL_pure (i := 7) (oi := ({ dst := some 13, op := Op.build 49 #[(0, Operand.tmp 8), (1, Operand.tmp 12)], type := 49, pos := "scope.go:36", after := #[{ on := 2, ground := Ground.data }, { on := 6, ground := Ground.data }], guard := none } : Oper)) (v := ?_) rfl (by kernel_rfl) (by kernel_rfl) (by kernel_rfl) (by kernel_rfl) (fun _ _ _ h => h) (Or.inl ⟨by rfl, ?_⟩) (by assumption) (by kernel_rfl) ?_
  rotate_left 1
  · intro w hSw; clear hSw; go_simp; try with_reducible rfl
  (try simp only [Act.put, List.setIfInBounds_toArray, List.set_cons_zero, List.set_cons_succ])
  --END
  refine wpAnyL_ready (rs := [8]) (by kernel_rfl) (by simp) ?_
  refine AllReadyL.cons (o := _) rfl (fun K hK => ?_) AllReadyL.nil
  go_simp
  obtain ⟨W3, hW3, hb3, hh3, hlt3⟩ := frBox w2 #[.slice R l.length c2, .pointer p] 49
  rw [hW3]
  have H3 := Lib.hid (H2.out.below hb3)
  have HB3 := Lib.hid (HB2.out.trans (hb3.mono HB2.out.size))
  have HO3 := Lib.hid (ownS_below HO2.out hb3)
  have HH3 := Lib.hid hh3
  refine hK.out _ _ ⟨.inr H3.out.c0.1, trivial⟩ (fun hC0 => ?_)
  clear hK K hb3 hh3 hlt3 hW3
  (try simp only [Act.put, List.setIfInBounds_toArray, List.set_cons_zero, List.set_cons_succ])
  --REG (*narthex/scope.Scope).Push:1 9 10
  refine wpAnyL_pure (i := 9) (oi := ({ dst := some 15, op := Op.nilCheck (Operand.tmp 6), type := 0, pos := "scope.go:36", after := #[{ on := 0, ground := Ground.data }, { on := 0, ground := Ground.phase }, { on := 1, ground := Ground.phase }, { on := 2, ground := Ground.phase }, { on := 3, ground := Ground.phase }, { on := 4, ground := Ground.phase }, { on := 5, ground := Ground.phase }, { on := 6, ground := Ground.phase }, { on := 7, ground := Ground.phase }, { on := 8, ground := Ground.phase }], guard := none } : Oper)) (v := ?_) rfl (by kernel_rfl) (by kernel_rfl) (by kernel_rfl) (by kernel_rfl) (fun _ _ _ h => h) (Or.inl ⟨by rfl, ?_⟩) (by assumption) (by kernel_rfl) ?_
  rotate_left 1
  · intro w hSw; clear hSw; go_simp; try with_reducible rfl
  (try simp only [Act.put, List.setIfInBounds_toArray, List.set_cons_zero, List.set_cons_succ])
  refine wpAnyL_pure (i := 10) (oi := ({ dst := some 16, op := Op.fieldAddr 46 (Operand.tmp 15) 0, type := 0, pos := "scope.go:36", after := #[{ on := 9, ground := Ground.data }, { on := 0, ground := Ground.phase }, { on := 1, ground := Ground.phase }, { on := 2, ground := Ground.phase }, { on := 3, ground := Ground.phase }, { on := 4, ground := Ground.phase }, { on := 5, ground := Ground.phase }, { on := 6, ground := Ground.phase }, { on := 7, ground := Ground.phase }, { on := 8, ground := Ground.phase }], guard := none } : Oper)) (v := ?_) rfl (by kernel_rfl) (by kernel_rfl) (by kernel_rfl) (by kernel_rfl) (fun _ _ _ h => h) (Or.inl ⟨by rfl, ?_⟩) (by assumption) (by kernel_rfl) ?_
  rotate_left 1
  · intro w hSw; clear hSw; go_simp; try with_reducible rfl
  (try simp only [Act.put, List.setIfInBounds_toArray, List.set_cons_zero, List.set_cons_succ])
  --END
  obtain ⟨d0, d1, e0, e1⟩ := H3.out.c0
  refine wpAnyL_ready (rs := [11]) (by kernel_rfl) (by simp) ?_
  refine AllReadyL.cons (o := _) rfl (fun K hK => ?_) AllReadyL.nil
  go_simp
  refine hK.out _ _ ⟨.inl (by kernel_rfl), trivial⟩ (fun hC0 => ?_)
  clear hK K
  (try simp only [Act.put, List.setIfInBounds_toArray, List.set_cons_zero, List.set_cons_succ])
  refine wpAnyL_done (by kernel_rfl) ?_ _
  have h4 := Go.Joins.block_setCell H3.out.blk (.pointer (some ⟨w2.heap.size, 0, none⟩)) (i := 0)
  have HH4 := Lib.hid h4
  have hne : ∀ j, j ≠ g → (W3.setCell ⟨g, 0, none⟩ (.pointer (some ⟨w2.heap.size, 0, none⟩))).heap[j]? = W3.heap[j]? := fun j hj => Below.heap_setCell _ _ _ _ hj
  have HNE := Lib.hid hne
  have K4 : Hid (KeepS W0 (W3.setCell ⟨g, 0, none⟩ (.pointer (some ⟨w2.heap.size, 0, none⟩))) g) := Lib.hid ((KeepS.of_below HB3.out g).set)
  clear h4 hne d0 d1 e0 e1 c0 c1 f0 f1 hC0
  generalize W3.setCell ⟨g, 0, none⟩ (.pointer (some ⟨w2.heap.size, 0, none⟩)) = W4 at *
  have d1 : W4.cell? ⟨g, 1, none⟩ = some (.int .i64 fs.length) := by rw [Lib.cell_of_heap HH4.out]; rfl
  have e1 := Lib.frozen_of_heap HH4.out 1
  have ew : IntKind.i64.wrap ((fs.length : Int) + 1) = (fs.length : Int) + 1 := IntWalk.i64_in _ (by omega)
  go_wp2
  refine bodyPost_ret (v := .tuple #[]) (by simp [results, Try.results15, go_sem]) rfl ?_
  have h5 := Go.Joins.block_setCell HH4.out (.int .i64 ((fs.length : Int) + 1)) (i := 1)
  have hne5 : ∀ j, j ≠ g → (W4.setCell ⟨g, 1, none⟩ (.int .i64 ((fs.length : Int) + 1))).heap[j]? = W3.heap[j]? := fun j hj => (Below.heap_setCell _ _ _ _ hj).trans (HNE.out j hj)
  have hfr : FrAt (W4.setCell ⟨g, 1, none⟩ (.int .i64 ((fs.length : Int) + 1))) base (some ⟨w2.heap.size, 0, none⟩) (l :: fs) :=
    FrAt.same H3.out.blk (fun j _ hj => hne5 j hj) (l :: fs) _ ⟨w2.heap.size, R, c2, p, rfl, Nat.le_trans HS0.out HB2.out.size, HH3.out, ownS_low HO3.out HS0.out, H3.out.fr⟩
  refine ⟨rfl, ⟨_, ⟨by simpa using h5, H3.out.gbase, hfr⟩⟩, (KeepS.of_below HD.out g).trans K4.out.set⟩
end Go.Proofs.Ytbamcpnmabpacaa
