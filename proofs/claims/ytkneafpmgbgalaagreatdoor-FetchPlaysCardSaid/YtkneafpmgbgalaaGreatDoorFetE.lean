/- Merged texts: Ints, TxtSame, RGet, FetPlays. -/
import Derived.Test.YtkneafpmgbgalaaGreatDoorTexts
import Derived.Test.YtkneafpmgbgalaaGreatDoorFetB
import Derived.Deep.QuietTactic
import Derived.Test.YtkneafpmgbgalaaGreatDoorFetD
import Derived.Laws.OwnMore
import Derived.Deep.RegionHeld3
import Derived.Maps.AppendAt
import Derived.Deep.Cut
import Derived.Deep.CutRange
import Derived.Deep.DeepCutAuto
/- Rows of numbers, held against each other: narthexref02.Ints. Conditions: none. -/
namespace Go.Proofs.YtkneafpmgbgalaaGreatDoor
open Go.RowKit
theorem num_no {a b : Int} (h : ¬ a = b) : (a != b) = true := by simpa using h
theorem takesEq {α : Type} {l m : List α} {k : Nat} {x : α} (h : l.take k = m.take k) (hx : l[k]? = some x) (hy : m[k]? = some x) : l.take (k + 1) = m.take (k + 1) := takesEqT h hx hy
def IntsAt (w : World) (A : Option Addr) (n : Nat) (xs : List Int) : Prop :=
  xs.length = n ∧ ∀ k, k < n → ∃ a x, A = some a ∧ xs[k]? = some x ∧ a.block < w.heap.size ∧ w.cell? (a.add k) = some (.int .i64 x)
theorem IntsAt.below {w w' : World} {A : Option Addr} {n : Nat} {xs : List Int} (h : IntsAt w A n xs) (hb : Below w.heap.size w w') : IntsAt w' A n xs :=
  ⟨h.1, fun k hk => by
    obtain ⟨a, s, h1, h2, h3, h4⟩ := h.2 k hk
    exact ⟨a, s, h1, h2, Nat.lt_of_lt_of_le h3 hb.size, (hb.cell (by rw [addBlockT]; exact h3)).trans h4⟩⟩
def numCells (l : List Int) : List Value := l.map (Value.int .i64)
theorem IntsAt.of_own {w : World} {base : Nat} {e : TypeId} {A : Option Addr} {c : Nat} {xs : List Int} (h : w.ownsRow base e 1 (.slice A xs.length c) xs.length (numCells xs)) : IntsAt w A xs.length xs := by
  refine ⟨rfl, fun k hk => ?_⟩
  rcases h.2 with ⟨_, h2⟩ | ⟨g, cap, cur, hv, hg, hh, _⟩
  · omega
  · cases hv
    refine ⟨⟨g, 0, none⟩, xs[k], rfl, List.getElem?_eq_getElem hk, ?_, ?_⟩
    · exact (h.lt g rfl).2
    · exact h.cells rfl k _ (by unfold numCells; rw [List.getElem?_map, List.getElem?_eq_getElem hk]; rfl)
end Go.Proofs.YtkneafpmgbgalaaGreatDoor
/- The contract of narthexref15.Texts. Conditions: none. -/
namespace Go.Proofs.YtkneafpmgbgalaaGreatDoor
open Go.RowKit
def RetQT (b : Bool) (w : World) (e : Ending) (w' : World) : Prop := e = .returned (.bool b) ∧ ∃ d, w' = w.drewN d
theorem takesEqU {α : Type} {l m : List α} {k : Nat} {x : α} (h : l.take k = m.take k) (hx : l[k]? = some x) (hy : m[k]? = some x) : l.take (k + 1) = m.take (k + 1) := by
  rw [List.take_add_one, List.take_add_one, h, hx, hy]
theorem toL_injT {a b : ByteArray} : a.toList = b.toList ↔ a = b := by
  rw [ByteArray.toList_eq, ByteArray.toList_eq]
  exact ⟨Go.WideShapes.bytes_inj, fun h => by rw [h]⟩
theorem toL_noT {a b : ByteArray} (h : ¬ a = b) : (a.toList == b.toList) = false := by
  rw [beq_eq_false_iff_ne]; exact fun h' => h (toL_injT.1 h')
theorem str_noT {a b : ByteArray} (h : ¬ a = b) : (a.toList == b.toList) = false := toL_noT h
set_option maxHeartbeats 2000000 in
theorem textsT_any (A : Option Addr) (n c : Nat) (l : List ByteArray) (A' : Option Addr) (n' c' : Nat) (m : List ByteArray) (w : World) (hl : TsAt w A n l) (hm : TsAt w A' n' m) (hn : n ≤ 9223372036854775807) :
    Calls Tryz.prog 12 #[.slice A n c, .slice A' n' c'] w (RetQT (decide (l = m)) w) := by
  have L := Lib.hid hl
  have M := Lib.hid hm
  clear hl hm
  by_cases hne : n = n'
  · subst hne
    go_enter Tryz.func12, Tryz.ntmps12
    go_wp2
    go_loopw [5] (fun i wr => ∃ (k d : Nat), k ≤ n ∧ i = .int .i64 k ∧ Hid (l.take k = m.take k) ∧ wr = w.drewN d) (fun i _ => n - (intOf i).toNat)
    case atStart => exact ⟨0, 0, by omega, rfl, rfl, rfl⟩
    case round =>
      obtain ⟨k, d, hk, rfl, HT, rfl⟩ := hrel
      by_cases hlt : k < n
      · obtain ⟨a, x, rfl, hx, _, g0⟩ := L.out.2 k hlt
        obtain ⟨b, y, rfl, hy, _, i0⟩ := M.out.2 k hlt
        have b0 : (0 : Int) ≤ (k : Int) := by omega
        have b1 : (k : Int) < (n : Int) := by omega
        have X := Lib.hid hx
        have Y := Lib.hid hy
        clear hx hy
        by_cases hxy : x = y
        · have XY := Lib.hid hxy
          rw [← hxy] at i0
          clear hxy
          go_wp2_with fail
          go_quiet (fail)
          go_wp2
          go_roundw
          case rel => exact ⟨k + 1, _, by omega, by go_num, takesEqU HT.out X.out (by rw [XY.out]; exact Y.out), rfl⟩
          case measure => simp [intOf]; omega
        · have t4 := str_noT hxy
          have XY := Lib.hid hxy
          clear hxy
          go_wp2_with fail
          go_quiet (fail)
          go_wp2
          go_ret
          have G : decide (l = m) = false := by
            refine decide_eq_false fun h => XY.out ?_
            have h1 := X.out
            rw [h, Y.out] at h1
            exact (Option.some.inj h1).symm
          rw [G]
          exact ⟨rfl, d + nq, by simp⟩
      · obtain rfl : k = n := by omega
        go_wp2
        go_ret
        have h := HT.out
        rw [← L.out.1, List.take_length, L.out.1, ← M.out.1, List.take_length] at h
        rw [decide_eq_true h]
        exact ⟨rfl, _, rfl⟩
  · have t0 : ((n : Int) != n') = true := by simp; omega
    have G : decide (l = m) = false := decide_eq_false fun h => hne (by rw [← L.out.1, ← M.out.1, h])
    rw [G]
    go_enter Tryz.func12, Tryz.ntmps12
    go_wp2
    go_ret
    exact ⟨rfl, 0, rfl⟩
end Go.Proofs.YtkneafpmgbgalaaGreatDoor
/- The contract of narthexref24.Get. Conditions: at most 2^20 in the trace. -/
namespace Go.Proofs.YtkneafpmgbgalaaGreatDoor
open Go.RowKit Go.Maps Go.Proofs.YtkneafpmgbgalaaGreatDoor.UriPlain
set_option linter.unusedVariables false
set_option linter.unusedSimpArgs false
theorem strCell_new (w : World) (x : Value) (t : TypeId) : ∀ j u, [x][j]? = some u → (w.alloc (.cells #[x] t)).cell? ((⟨w.heap.size, 0, none⟩ : Addr).add j) = some u := by
  intro j u hj
  match j, hj with
  | 0, hj => simp at hj; subst hj; simp [Addr.add]
  | (j + 1), hj => simp at hj
theorem grown_refl (w : World) (row : Option Nat) : w.grownBy w row := ⟨rfl, rfl, rfl, Nat.le_refl _, fun _ _ _ => rfl⟩
/-- What is appended: nothing of nil, or the cells behind an address. -/
def Source (w : World) (A : Option Addr) (m c : Nat) (news : List Value) : Prop := (A = none → m = 0 ∧ c = 0) ∧ ∀ ad, A = some ad → ∀ j u, news[j]? = some u → w.cell? (ad.add j) = some u
theorem Source.of_own {w : World} {base n c : Nat} {e : TypeId} {A : Option Addr} {xs : List Value} (h : w.ownsRow base e 1 (.slice A n c) n xs) : Source w A n c xs := by
  rcases h.2 with ⟨h1, h2⟩ | ⟨g, cap, cur, h1, _⟩
  · cases h1; exact ⟨fun _ => ⟨rfl, rfl⟩, fun ad h => by cases h⟩
  · cases h1; exact ⟨fun h => (by cases h), fun ad hA j u hj => by cases hA; exact h.cells rfl j u hj⟩
theorem step_own {P : Program} {ops : Array Oper} {o : Oper} {a : Act} {w : World} {K : Act → World → Prop} {Q : Exit → Act → World → Prop} {E : Prop}
    (hg : Region.wanted o (yielded ops a.tmps) = true) (s x : Operand) (t : TypeId) (hop : o.op = Op.call { callee := Callee.builtin Builtin.append, args := #[s, x], argTypes := #[t, t] })
    (base : Nat) (e : TypeId) (i : TypeInfo) (z : Value) (bytes : Nat) (h1 : P.underlying t = some (.slice e)) (h2 : P.info? e = some i) (h3 : i.zero = some z) (h4 : i.size = 1) (h5 : i.bytes = bytes) (h6 : z.cells.size = 1)
    (v : Value) (n : Nat) (xs : List Value) (hs : a.eval s = v) (hown : w.ownsRow base e 1 v n xs)
    (A : Option Addr) (m c : Nat) (news : List Value) (hx : a.eval x = .slice A m c) (hn : news.length = m) (hc : Source w A m c news) (h1c : ∀ u ∈ news, u.oneCell' = true)
    (b1 : n + m ≤ maxLen) (b2 : (n + m) * bytes ≤ 140737488355328) (hb : base ≤ w.heap.size)
    (hK : ∀ v' w', w'.ownsRow base e 1 v' (n + m) (xs ++ news) → w.grownBy w' v.ownBlock → (v'.ownBlock = v.ownBlock ∨ v'.ownBlock = some w.heap.size) → K (a.put o.dst v') w') :
    if Region.wanted o (yielded ops a.tmps) = true then Oper.wp P o a w K Q else E := by
  rw [if_pos hg]
  cases A with
  | none =>
    obtain ⟨rfl, rfl⟩ := hc.1 rfl
    obtain rfl : news = [] := List.eq_nil_of_length_eq_zero hn
    have hrun := run_append_owned_none (P := P) (w := w) base t o.type e i 1 h1 h2 v n xs hown
    unfold Oper.wp
    simp [execOp, hop, resolve, invoke, builtin, hs, hx, hrun, Result.andThen]
    exact hK v w (by simpa using hown) (grown_refl _ _) (.inl rfl)
  | some ad =>
    obtain ⟨v', w', hrun, r1, r2, _, r3⟩ := run_append_own_at (P := P) (w := w) base t o.type e i z 1 bytes h1 h2 h3 h4 h5 h6 (by omega) v n xs hown ad m c news (by omega) (hc.2 ad rfl) h1c b1 b2 hb
    unfold Oper.wp
    simp [execOp, hop, resolve, invoke, builtin, hs, hx, hrun, Result.andThen]
    exact hK v' w' r1 r2 r3
theorem wpList_append_src {P : Program} {w : World} {ops : Array Oper} {rest : List Oper} {o : Oper} {a : Act} {Q : Exit → Act → World → Prop} (hgd : o.guard = none) (s x : Operand) (t : TypeId)
    (ho : o.op = .call { callee := .builtin .append, args := #[s, x], argTypes := #[t, t] })
    (base : Nat) (e : TypeId) (i : TypeInfo) (z : Value) (bytes : Nat) (ht : P.underlying t = some (.slice e)) (hi : P.info? e = some i) (hz : i.zero = some z)
    (hsize : i.size = 1) (hby : i.bytes = bytes) (hzs : z.cells.size = 1)
    (v : Value) (n : Nat) (xs : List Value) (hs : a.eval s = v) (hown : w.ownsRow base e 1 v n xs)
    (A : Option Addr) (m c : Nat) (news : List Value) (hx : a.eval x = .slice A m c) (hl : news.length = m) (hc : Source w A m c news) (h1 : ∀ u ∈ news, u.oneCell' = true)
    (h63 : n + m ≤ maxLen) (hbytes : (n + m) * bytes ≤ 140737488355328) (hbase : base ≤ w.heap.size)
    (h : ∀ v' w', w'.ownsRow base e 1 v' (n + m) (xs ++ news) → w.grownBy w' v.ownBlock → (v'.ownBlock = v.ownBlock ∨ v'.ownBlock = some w.heap.size) → wpList P ops Q rest (a.put o.dst v') w') :
    wpList P ops Q (o :: rest) a w := by
  refine wpList_plain hgd fun K hK => ?_
  cases A with
  | none =>
    obtain ⟨rfl, rfl⟩ := hc.1 rfl
    obtain rfl : news = [] := List.eq_nil_of_length_eq_zero hl
    have hr := run_append_owned_none (P := P) (w := w) base t o.type e i 1 ht hi v n xs hown
    unfold Oper.wp execOp
    simp only [ho, resolve, invoke, builtin, Sem.run_bind, Sem.run_pure, Result.andThen_ok, List.map_toArray, List.map_cons, List.map_nil, hs, hx, hr]
    exact hK _ _ (h v w (by simpa using hown) (grown_refl _ _) (.inl rfl))
  | some ad =>
    obtain ⟨v', w', hr, h2, h3, h4, h5⟩ := run_append_own_at (P := P) (w := w) base t o.type e i z 1 bytes ht hi hz hsize hby hzs (by omega) v n xs hown ad m c news (by omega) (hc.2 ad rfl) h1 h63 hbytes hbase
    unfold Oper.wp execOp
    simp only [ho, resolve, invoke, builtin, Sem.run_bind, Sem.run_pure, Result.andThen_ok, List.map_toArray, List.map_cons, List.map_nil, hs, hx, hr]
    exact hK _ _ (h v' w' h2 h3 h5)
theorem empty_own (w : World) (base : Nat) (t : TypeId) (hb : base ≤ w.heap.size) : (w.alloc (.cells #[] t)).ownsRow base t 1 (.slice (some ⟨w.heap.size, 0, none⟩) 0 0) 0 [] :=
  World.ownsRow_lit w #[] 0 hb (by unfold maxLen; omega) rfl
theorem Source.below {w w' : World} {A : Option Addr} {m c : Nat} {news : List Value} (h : Source w A m c news) (hA : ∀ ad, A = some ad → ad.block < w.heap.size) (hb : Below w.heap.size w w') : Source w' A m c news :=
  ⟨h.1, fun ad e j u hj => (hb.cell (by rw [addBlockT]; exact hA ad e)).trans (h.2 ad e j u hj)⟩
theorem Source.grown {w w' : World} {A : Option Addr} {m c : Nat} {news : List Value} {row : Option Nat} (h : Source w A m c news) (hg : w.grownBy w' row) (hA : ∀ ad, A = some ad → some ad.block ≠ row) : Source w' A m c news :=
  ⟨h.1, fun ad e j u hj => hg.cell (h.2 ad e j u hj) (by rw [addBlockT]; exact hA ad e)⟩
theorem Source.lit (w : World) (x : Value) (t : TypeId) : Source (w.alloc (.cells #[x] t)) (some ⟨w.heap.size, 0, none⟩) 1 1 [x] := ⟨fun h => (by cases h), fun ad hA j u hj => by cases hA; exact strCell_new w x t j u hj⟩
theorem str_one {l : List ByteArray} : ∀ u ∈ txtCells l, u.oneCell' = true := by
  intro u hu; unfold txtCells at hu; obtain ⟨s, _, rfl⟩ := List.mem_map.1 hu; rfl
theorem own_addr_lt {w : World} {base n c : Nat} {e : TypeId} {A : Option Addr} {xs : List Value} (h : w.ownsRow base e 1 (.slice A n c) n xs) : ∀ ad, A = some ad → ad.block < w.heap.size := fun ad hA => by subst hA; exact (h.lt _ rfl).2
theorem fresh_row {W0 W1 w2 : World} {v v2 : Value} {g0 : Nat} (D : Below W0.heap.size W0 W1) (hv : v.ownBlock = some g0) (hg0 : W0.heap.size ≤ g0) (hg : W1.grownBy w2 v.ownBlock)
    (hb : v2.ownBlock = v.ownBlock ∨ v2.ownBlock = some W1.heap.size) : Below W0.heap.size W0 w2 ∧ ∀ g, v2.ownBlock = some g → W0.heap.size ≤ g := by
  refine ⟨D.grown hg D.size (fun g h => by rw [hv] at h; cases h; exact hg0), fun g h => ?_⟩
  rcases hb with hb | hb
  · rw [hb, hv] at h; cases h; exact hg0
  · rw [hb] at h; cases h; exact D.size
theorem far_own {X : Addr} {v : Value} {B : Nat} (h : ∀ g, v.ownBlock = some g → B ≤ g) (hX : X.block < B) : some X.block ≠ v.ownBlock := fun heq => by have := h _ heq.symm; omega
theorem Source.other {w w' : World} {g g' m c : Nat} {news : List Value} {v : Value} (h : Source w (some ⟨g, 0, none⟩) m c news) (hg : w.grownBy w' v.ownBlock) (hv : v.ownBlock = some g') (hne : g ≠ g') : Source w' (some ⟨g, 0, none⟩) m c news :=
  h.grown hg (fun ad hA => by cases hA; rw [hv]; simpa using hne)
theorem empty_own' (w : World) (base g : Nat) (t : TypeId) (hb : base ≤ w.heap.size) (hg : g = w.heap.size) : (w.alloc (.cells #[] t)).ownsRow base t 1 (.slice (some ⟨g, 0, none⟩) 0 0) 0 [] := by subst hg; exact empty_own w base t hb
theorem Source.lit' (w : World) (g : Nat) (x : Value) (t : TypeId) (hg : g = w.heap.size) : Source (w.alloc (.cells #[x] t)) (some ⟨g, 0, none⟩) 1 1 [x] := by subst hg; exact Source.lit w x t
theorem alloc_size (w : World) (o : Obj) : w.heap.size + 1 = (w.alloc o).heap.size := by simp
theorem alloc_lt (w : World) (o : Obj) : w.heap.size < (w.alloc o).heap.size := by simp
structure RGS where
  A1 : Option Addr
  A2 : Option Addr
  A3 : Option Addr
  c1 : Nat
  c2 : Nat
  c3 : Nat
def tx (o : List Int × Int) : ByteArray := strOfNums o.1
structure RGOk (w : World) (st : FS) (X : RGS) (k : Nat) : Prop where
  len : st.tr.length = k
  len2 : st.out.length = k
  tr : w.ownsRow 0 9 1 (.slice X.A1 k X.c1) k (txtCells st.tr)
  da : w.ownsRow 0 9 1 (.slice X.A2 k X.c2) k (txtCells (st.out.map tx))
  er : w.ownsRow 0 3 1 (.slice X.A3 k X.c3) k (numCells (st.out.map Prod.snd))
theorem RGOk.below {w w' : World} {st : FS} {X : RGS} {k : Nat} (h : RGOk w st X k) (hb : Below w.heap.size w w') : RGOk w' st X k :=
  ⟨h.len, h.len2, ownF_below h.tr hb, ownF_below h.da hb, ownF_below h.er hb⟩
def rgV (a b mf mb f g0 : Int) (B : Option Addr) (p d : Nat) (A : Option Addr) (n c : Nat) (X : RGS) (k : Nat) (rd : Int) : Value := .agg #[.int .i64 a, .int .i64 b, .int .i64 f, .int .i64 g0, .int .i64 mf, .int .i64 mb, .slice B p d, .slice A n c, .slice X.A1 k X.c1, .slice X.A2 k X.c2, .slice X.A3 k X.c3, .int .i64 rd]
def RGetE (a b mf mb f g0 : Int) (B : Option Addr) (p d : Nat) (A : Option Addr) (n c : Nat) (X0 : RGS) (g : FS × (List Int × Int)) (w : World) (e : Ending) (w' : World) : Prop :=
  ∃ X k, e = .returned (.tuple #[rgV a b mf mb f g0 B p d A n c X k g.1.rd, .string (strOfNums g.2.1), .int .i64 g.2.2]) ∧ RGOk w' g.1 X k ∧ Below w.heap.size w w' ∧ (X = X0 ∨ (∀ b, (Value.slice X.A1 k X.c1).ownBlock = some b → w.heap.size ≤ b) ∧ ∀ b, (Value.slice X.A2 k X.c2).ownBlock = some b → w.heap.size ≤ b)
theorem RGOk.ts {w : World} {st : FS} {X : RGS} {k : Nat} (h : RGOk w st X k) : TsAt w X.A1 k st.tr := by
  have h1 := h.tr
  have hl := h.len
  rw [← hl] at h1 ⊢
  exact TsAt.of_own h1
theorem RGOk.ds {w : World} {st : FS} {X : RGS} {k : Nat} (h : RGOk w st X k) : TsAt w X.A2 k (st.out.map tx) := by
  have h1 := h.da
  have hl : (st.out.map tx).length = k := by rw [List.length_map]; exact h.len2
  rw [← hl] at h1 ⊢
  exact TsAt.of_own h1
theorem RGOk.es {w : World} {st : FS} {X : RGS} {k : Nat} (h : RGOk w st X k) : IntsAt w X.A3 k (st.out.map Prod.snd) := by
  have h1 := h.er
  have hl : (st.out.map Prod.snd).length = k := by rw [List.length_map]; exact h.len2
  rw [← hl] at h1 ⊢
  exact IntsAt.of_own h1
theorem setOther {w : World} {b j o : Nat} {v : Value} (hj : j ≠ b) : (w.setCell ⟨b, o, none⟩ v).heap[j]? = w.heap[j]? := Below.heap_setCell _ _ _ _ hj
theorem set12 (w : World) (b : Nat) (t : TypeId) (z0 z1 z2 z3 z4 z5 z6 z7 z8 z9 z10 z11 v0 v1 v2 v3 v4 v5 v6 v7 v8 v9 v10 v11 : Value) (h : w.heap[b]? = some (.cells #[z0, z1, z2, z3, z4, z5, z6, z7, z8, z9, z10, z11] t (0, 0))) :
    ∃ W, ((((((((((((w.setCell ⟨b, 0, none⟩ v0).setCell ⟨b, 1, none⟩ v1).setCell ⟨b, 2, none⟩ v2).setCell ⟨b, 3, none⟩ v3).setCell ⟨b, 4, none⟩ v4).setCell ⟨b, 5, none⟩ v5).setCell ⟨b, 6, none⟩ v6).setCell ⟨b, 7, none⟩ v7).setCell ⟨b, 8, none⟩ v8).setCell ⟨b, 9, none⟩ v9).setCell ⟨b, 10, none⟩ v10).setCell ⟨b, 11, none⟩ v11) = W ∧ W.heap[b]? = some (.cells #[v0, v1, v2, v3, v4, v5, v6, v7, v8, v9, v10, v11] t (0, 0)) ∧ Below b w W ∧ ∀ j, j ≠ b → W.heap[j]? = w.heap[j]? := by
  have h0 : (w.setCell ⟨b, 0, none⟩ v0).heap[b]? = some (.cells #[v0, z1, z2, z3, z4, z5, z6, z7, z8, z9, z10, z11] t (0, 0)) := Go.Joins.block_setCell h _
  have h1 : ((w.setCell ⟨b, 0, none⟩ v0).setCell ⟨b, 1, none⟩ v1).heap[b]? = some (.cells #[v0, v1, z2, z3, z4, z5, z6, z7, z8, z9, z10, z11] t (0, 0)) := Go.Joins.block_setCell h0 _
  have h2 : (((w.setCell ⟨b, 0, none⟩ v0).setCell ⟨b, 1, none⟩ v1).setCell ⟨b, 2, none⟩ v2).heap[b]? = some (.cells #[v0, v1, v2, z3, z4, z5, z6, z7, z8, z9, z10, z11] t (0, 0)) := Go.Joins.block_setCell h1 _
  have h3 : ((((w.setCell ⟨b, 0, none⟩ v0).setCell ⟨b, 1, none⟩ v1).setCell ⟨b, 2, none⟩ v2).setCell ⟨b, 3, none⟩ v3).heap[b]? = some (.cells #[v0, v1, v2, v3, z4, z5, z6, z7, z8, z9, z10, z11] t (0, 0)) := Go.Joins.block_setCell h2 _
  have h4 : (((((w.setCell ⟨b, 0, none⟩ v0).setCell ⟨b, 1, none⟩ v1).setCell ⟨b, 2, none⟩ v2).setCell ⟨b, 3, none⟩ v3).setCell ⟨b, 4, none⟩ v4).heap[b]? = some (.cells #[v0, v1, v2, v3, v4, z5, z6, z7, z8, z9, z10, z11] t (0, 0)) := Go.Joins.block_setCell h3 _
  have h5 : ((((((w.setCell ⟨b, 0, none⟩ v0).setCell ⟨b, 1, none⟩ v1).setCell ⟨b, 2, none⟩ v2).setCell ⟨b, 3, none⟩ v3).setCell ⟨b, 4, none⟩ v4).setCell ⟨b, 5, none⟩ v5).heap[b]? = some (.cells #[v0, v1, v2, v3, v4, v5, z6, z7, z8, z9, z10, z11] t (0, 0)) := Go.Joins.block_setCell h4 _
  have h6 : (((((((w.setCell ⟨b, 0, none⟩ v0).setCell ⟨b, 1, none⟩ v1).setCell ⟨b, 2, none⟩ v2).setCell ⟨b, 3, none⟩ v3).setCell ⟨b, 4, none⟩ v4).setCell ⟨b, 5, none⟩ v5).setCell ⟨b, 6, none⟩ v6).heap[b]? = some (.cells #[v0, v1, v2, v3, v4, v5, v6, z7, z8, z9, z10, z11] t (0, 0)) := Go.Joins.block_setCell h5 _
  have h7 : ((((((((w.setCell ⟨b, 0, none⟩ v0).setCell ⟨b, 1, none⟩ v1).setCell ⟨b, 2, none⟩ v2).setCell ⟨b, 3, none⟩ v3).setCell ⟨b, 4, none⟩ v4).setCell ⟨b, 5, none⟩ v5).setCell ⟨b, 6, none⟩ v6).setCell ⟨b, 7, none⟩ v7).heap[b]? = some (.cells #[v0, v1, v2, v3, v4, v5, v6, v7, z8, z9, z10, z11] t (0, 0)) := Go.Joins.block_setCell h6 _
  have h8 : (((((((((w.setCell ⟨b, 0, none⟩ v0).setCell ⟨b, 1, none⟩ v1).setCell ⟨b, 2, none⟩ v2).setCell ⟨b, 3, none⟩ v3).setCell ⟨b, 4, none⟩ v4).setCell ⟨b, 5, none⟩ v5).setCell ⟨b, 6, none⟩ v6).setCell ⟨b, 7, none⟩ v7).setCell ⟨b, 8, none⟩ v8).heap[b]? = some (.cells #[v0, v1, v2, v3, v4, v5, v6, v7, v8, z9, z10, z11] t (0, 0)) := Go.Joins.block_setCell h7 _
  have h9 : ((((((((((w.setCell ⟨b, 0, none⟩ v0).setCell ⟨b, 1, none⟩ v1).setCell ⟨b, 2, none⟩ v2).setCell ⟨b, 3, none⟩ v3).setCell ⟨b, 4, none⟩ v4).setCell ⟨b, 5, none⟩ v5).setCell ⟨b, 6, none⟩ v6).setCell ⟨b, 7, none⟩ v7).setCell ⟨b, 8, none⟩ v8).setCell ⟨b, 9, none⟩ v9).heap[b]? = some (.cells #[v0, v1, v2, v3, v4, v5, v6, v7, v8, v9, z10, z11] t (0, 0)) := Go.Joins.block_setCell h8 _
  have h10 : (((((((((((w.setCell ⟨b, 0, none⟩ v0).setCell ⟨b, 1, none⟩ v1).setCell ⟨b, 2, none⟩ v2).setCell ⟨b, 3, none⟩ v3).setCell ⟨b, 4, none⟩ v4).setCell ⟨b, 5, none⟩ v5).setCell ⟨b, 6, none⟩ v6).setCell ⟨b, 7, none⟩ v7).setCell ⟨b, 8, none⟩ v8).setCell ⟨b, 9, none⟩ v9).setCell ⟨b, 10, none⟩ v10).heap[b]? = some (.cells #[v0, v1, v2, v3, v4, v5, v6, v7, v8, v9, v10, z11] t (0, 0)) := Go.Joins.block_setCell h9 _
  have h11 : ((((((((((((w.setCell ⟨b, 0, none⟩ v0).setCell ⟨b, 1, none⟩ v1).setCell ⟨b, 2, none⟩ v2).setCell ⟨b, 3, none⟩ v3).setCell ⟨b, 4, none⟩ v4).setCell ⟨b, 5, none⟩ v5).setCell ⟨b, 6, none⟩ v6).setCell ⟨b, 7, none⟩ v7).setCell ⟨b, 8, none⟩ v8).setCell ⟨b, 9, none⟩ v9).setCell ⟨b, 10, none⟩ v10).setCell ⟨b, 11, none⟩ v11).heap[b]? = some (.cells #[v0, v1, v2, v3, v4, v5, v6, v7, v8, v9, v10, v11] t (0, 0)) := Go.Joins.block_setCell h10 _
  exact ⟨_, rfl, h11, (((((((((((((Below.refl b w).setCell (Nat.le_refl _) _).setCell (Nat.le_refl _) _).setCell (Nat.le_refl _) _).setCell (Nat.le_refl _) _).setCell (Nat.le_refl _) _).setCell (Nat.le_refl _) _).setCell (Nat.le_refl _) _).setCell (Nat.le_refl _) _).setCell (Nat.le_refl _) _).setCell (Nat.le_refl _) _).setCell (Nat.le_refl _) _).setCell (Nat.le_refl _) _), fun j hj => by
    simp only [setOther hj]⟩
theorem RGOk.same {w W : World} {st : FS} {X : RGS} {k rs : Nat} {zs : Array Value} (h : RGOk w st X k) (hz : w.heap[rs]? = some (.cells zs 42 (0, 0))) (hW : ∀ j, j ≠ rs → W.heap[j]? = w.heap[j]?) : RGOk W st X k :=
  ⟨h.len, h.len2, own_same h.tr (fun b hb => hW b (fun e => own_ne h.tr hz (by decide) (e ▸ hb))), own_same h.da (fun b hb => hW b (fun e => own_ne h.da hz (by decide) (e ▸ hb))), own_same h.er (fun b hb => hW b (fun e => own_ne h.er hz (by decide) (e ▸ hb)))⟩
def RMid (w : World) (cs : Array Value) (wx : World) : Prop := Below w.heap.size w wx ∧ wx.heap[w.heap.size]? = some (.cells cs 42 (0, 0)) ∧ wx.heap[w.heap.size + 1]? = some (.cells #[.int .i64 0, .int .i64 0, .int .i64 0, .int .i64 0, .int .i64 0, .int .i64 0, .slice none 0 0, .slice none 0 0, .slice none 0 0, .slice none 0 0, .slice none 0 0, .int .i64 0] 42 (0, 0)) ∧ w.heap.size + 2 ≤ wx.heap.size
theorem setSize (w : World) (p : Addr) (v : Value) : (w.setCell p v).heap.size = w.heap.size := by simp [World.setCell]
theorem RMid.drew {w wx : World} {cs : Array Value} (h : RMid w cs wx) : RMid w cs wx.drew := ⟨h.1.trans (below_drewF _ _), h.2.1, h.2.2.1, h.2.2.2⟩
theorem ownB {w : World} {base b' : Nat} {e : TypeId} {size : Nat} {v : Value} {n : Nat} {xs : List Value} (h : w.ownsRow base e size v n xs) (hb : b' ≤ base) : w.ownsRow b' e size v n xs :=
  ⟨h.1, h.2.imp (fun h => h) (fun ⟨g, cap, cur, hv, hg, r⟩ => ⟨g, cap, cur, hv, Nat.le_trans hb hg, r⟩)⟩
theorem own0 {w : World} {base : Nat} {e : TypeId} {size : Nat} {v : Value} {n : Nat} {xs : List Value} (h : w.ownsRow base e size v n xs) : w.ownsRow 0 e size v n xs :=
  ⟨h.1, h.2.imp (fun h => h) (fun ⟨g, cap, cur, hv, hg, r⟩ => ⟨g, cap, cur, hv, Nat.zero_le _, r⟩)⟩
theorem own_set {w : World} {base : Nat} {e : TypeId} {v : Value} {n : Nat} {xs : List Value} {bx o : Nat} {cs : Array Value} {u : Value} {t : TypeId} (h : w.ownsRow base e 1 v n xs) (hz : w.heap[bx]? = some (.cells cs t (0, 0))) (he : ¬ t = e) : (w.setCell ⟨bx, o, none⟩ u).ownsRow base e 1 v n xs :=
  own_same h (fun b hb => setOther (fun e => own_ne h hz he (e ▸ hb)))
theorem Tryz.infoIntP : (Tryz.prog.info? 3).map (fun i => (i.zero, i.size, i.bytes)) = some (some (.int .i64 0), 1, 8) := by kernel_rfl
theorem size_nums (xs : List Int) : (strOfNums xs).size = xs.length := by simp [strOfNums, ByteArray.size]
theorem idx_first {l : List ByteArray} {s : ByteArray} {i : Nat} (h : ∀ x ∈ l.take i, ¬ x = s) (hx : l[i]? = some s) : idxT l s = some i := by
  obtain ⟨hi, he⟩ := List.getElem?_eq_some_iff.1 hx
  unfold idxT
  rw [List.findIdx?_eq_some_iff_getElem]
  refine ⟨hi, by simpa using he, fun j hj => ?_⟩
  have : l[j] ∈ l.take i := List.mem_take_iff_getElem.2 ⟨j, by omega, rfl⟩
  simpa using h _ this
theorem no_succ {l : List ByteArray} {s x : ByteArray} {i : Nat} (h : ∀ y ∈ l.take i, ¬ y = s) (hx : l[i]? = some x) (hn : ¬ x = s) : ∀ y ∈ l.take (i + 1), ¬ y = s := by
  intro y hy
  rw [List.take_add_one, hx] at hy
  rcases List.mem_append.1 hy with hy | hy
  · exact h y hy
  · obtain rfl : y = x := by simpa using hy
    exact hn
set_option maxRecDepth 100000 in
set_option maxHeartbeats 8000000 in
theorem rget_any (a b mf mb f g0 : Int) (B : Option Addr) (p d : Nat) (L : List ByteArray) (A : Option Addr) (n c : Nat) (l : List An) (st : FS) (X : RGS) (k : Nat) (id : ByteArray) (w : World) (hL : TsAt w B p L) (hp : p ≤ 1048576) (hS : Shorts L) (hl : AnsAt w A n l) (hn : n ≤ 1048576)
    (hsz : ∀ x ∈ l, x.n ≤ 1048576) (hG : RGOk w st X k) (hk : k ≤ 1048576) (h0 : 0 ≤ st.rd) (h1 : st.rd ≤ mb) (h2 : mb ≤ 1099511627776) (hmf : 0 ≤ mf) :
    Calls Tryz.prog 15 #[rgV a b mf mb f g0 B p d A n c X k st.rd, .string id] w (RGetE a b mf mb f g0 B p d A n c X (getF L (l.map An.pl) mf mb st id) w) := by
  obtain ⟨A1, A2, A3, c1, c2, c3⟩ := X
  obtain rfl := hl.1
  obtain ⟨W0, hW0⟩ : ∃ W0, W0 = (w.alloc (.cells #[.int .i64 a, .int .i64 b, .int .i64 f, .int .i64 g0, .int .i64 mf, .int .i64 mb, .slice B p d, .slice A l.length c, .slice A1 k c1, .slice A2 k c2, .slice A3 k c3, .int .i64 st.rd] 42)).alloc (.cells #[.int .i64 0, .int .i64 0, .int .i64 0, .int .i64 0, .int .i64 0, .int .i64 0, .slice none 0 0, .slice none 0 0, .slice none 0 0, .slice none 0 0, .slice none 0 0, .int .i64 0] 42) := ⟨_, rfl⟩
  have hB0 : Below w.heap.size w W0 := by rw [hW0]; exact ((Below.refl _ _).alloc (Nat.le_refl _) _).alloc (by simp) _
  have hh0 : W0.heap[w.heap.size]? = some (.cells #[.int .i64 a, .int .i64 b, .int .i64 f, .int .i64 g0, .int .i64 mf, .int .i64 mb, .slice B p d, .slice A l.length c, .slice A1 k c1, .slice A2 k c2, .slice A3 k c3, .int .i64 st.rd] 42 (0, 0)) := by
    rw [hW0]
    exact (((Below.refl (w.heap.size + 1) _).alloc (by simp) _).block w.heap.size (by omega)).trans (heap_alloc_new w _)
  have hz0 : W0.heap[w.heap.size + 1]? = some (.cells #[.int .i64 0, .int .i64 0, .int .i64 0, .int .i64 0, .int .i64 0, .int .i64 0, .slice none 0 0, .slice none 0 0, .slice none 0 0, .slice none 0 0, .slice none 0 0, .int .i64 0] 42 (0, 0)) := by
    rw [hW0]
    have h := heap_alloc_new (w.alloc (.cells #[.int .i64 a, .int .i64 b, .int .i64 f, .int .i64 g0, .int .i64 mf, .int .i64 mb, .slice B p d, .slice A l.length c, .slice A1 k c1, .slice A2 k c2, .slice A3 k c3, .int .i64 st.rd] 42)) (.cells #[.int .i64 0, .int .i64 0, .int .i64 0, .int .i64 0, .int .i64 0, .int .i64 0, .slice none 0 0, .slice none 0 0, .slice none 0 0, .slice none 0 0, .slice none 0 0, .int .i64 0] 42)
    simpa using h
  have hs0 : W0.heap.size = w.heap.size + 2 := by rw [hW0]; simp
  have F := rfind22_any B p d L id W0 (hL.below hB0) hp hS
  have HW0 := Lib.hid hW0
  have HB0 := Lib.hid hB0
  have HH0 := Lib.hid hh0
  have HZ0 := Lib.hid hz0
  have HS0 := Lib.hid hs0
  have HL := Lib.hid hl
  have HG := Lib.hid hG
  have HSZ := Lib.hid hsz
  have hnm : findB L id.data.toList = true → bS (findT L id.data.toList) = nrmA id := fun h => by unfold findT; rw [if_pos h]; rfl
  generalize bS (findT L id.data.toList) = nm at *
  obtain ⟨fb, hf⟩ : ∃ fb, fb = findB L id.data.toList := ⟨_, rfl⟩
  rw [← hf] at F
  have F := Lib.hid F
  have HF := Lib.hid hf
  have HN := Lib.hid hnm
  clear hW0 hB0 hh0 hz0 hs0 hL hS hl hG hsz hf hnm
  unfold rgV
  go_enter Tryz.func15, Tryz.ntmps15
  go_wp2_with fail
  rw [← HW0.out]
  refine F.out.mono ?_
  rintro e w1 ⟨rfl, hB1⟩
  have hsz1 : w.heap.size + 2 ≤ w1.heap.size := by rw [← HS0.out]; exact hB1.size
  have hh1 := (hB1.block _ (by rw [HS0.out]; omega)).trans HH0.out
  have hz1 := (hB1.block _ (by rw [HS0.out]; omega)).trans HZ0.out
  have HB1 := Lib.hid (HB0.out.trans (hB1.mono HB0.out.size))
  have HH1 := Lib.hid hh1
  have HZ1 := Lib.hid hz1
  have HG1 := Lib.hid (HG.out.below HB1.out)
  clear F hB1 HW0 HB0 HH0 HZ0 HS0 hh1 hz1
  have u0 : w1.cell? ⟨w.heap.size, 0, none⟩ = some (.int .i64 a) := by rw [Lib.cell_of_heap HH1.out]; rfl
  have uf0 := Lib.frozen_of_heap HH1.out 0
  have u1 : w1.cell? ⟨w.heap.size, 1, none⟩ = some (.int .i64 b) := by rw [Lib.cell_of_heap HH1.out]; rfl
  have uf1 := Lib.frozen_of_heap HH1.out 1
  have u2 : w1.cell? ⟨w.heap.size, 2, none⟩ = some (.int .i64 f) := by rw [Lib.cell_of_heap HH1.out]; rfl
  have uf2 := Lib.frozen_of_heap HH1.out 2
  have u3 : w1.cell? ⟨w.heap.size, 3, none⟩ = some (.int .i64 g0) := by rw [Lib.cell_of_heap HH1.out]; rfl
  have uf3 := Lib.frozen_of_heap HH1.out 3
  have u4 : w1.cell? ⟨w.heap.size, 4, none⟩ = some (.int .i64 mf) := by rw [Lib.cell_of_heap HH1.out]; rfl
  have uf4 := Lib.frozen_of_heap HH1.out 4
  have u5 : w1.cell? ⟨w.heap.size, 5, none⟩ = some (.int .i64 mb) := by rw [Lib.cell_of_heap HH1.out]; rfl
  have uf5 := Lib.frozen_of_heap HH1.out 5
  have u6 : w1.cell? ⟨w.heap.size, 6, none⟩ = some (.slice B p d) := by rw [Lib.cell_of_heap HH1.out]; rfl
  have uf6 := Lib.frozen_of_heap HH1.out 6
  have u7 : w1.cell? ⟨w.heap.size, 7, none⟩ = some (.slice A l.length c) := by rw [Lib.cell_of_heap HH1.out]; rfl
  have uf7 := Lib.frozen_of_heap HH1.out 7
  have u8 : w1.cell? ⟨w.heap.size, 8, none⟩ = some (.slice A1 k c1) := by rw [Lib.cell_of_heap HH1.out]; rfl
  have uf8 := Lib.frozen_of_heap HH1.out 8
  have u9 : w1.cell? ⟨w.heap.size, 9, none⟩ = some (.slice A2 k c2) := by rw [Lib.cell_of_heap HH1.out]; rfl
  have uf9 := Lib.frozen_of_heap HH1.out 9
  have u10 : w1.cell? ⟨w.heap.size, 10, none⟩ = some (.slice A3 k c3) := by rw [Lib.cell_of_heap HH1.out]; rfl
  have uf10 := Lib.frozen_of_heap HH1.out 10
  have u11 : w1.cell? ⟨w.heap.size, 11, none⟩ = some (.int .i64 st.rd) := by rw [Lib.cell_of_heap HH1.out]; rfl
  have uf11 := Lib.frozen_of_heap HH1.out 11
  have n01 : ¬ w.heap.size = w.heap.size + 1 := by omega
  have n10 : ¬ w.heap.size + 1 = w.heap.size := by omega
  cases fb with
  | false =>
    have z0 : w1.cell? ⟨(w.heap.size + 1), 0, none⟩ = some (.int .i64 0) := by rw [Lib.cell_of_heap HZ1.out]; rfl
    have zf0 := Lib.frozen_of_heap HZ1.out 0
    have z1 : w1.cell? ⟨(w.heap.size + 1), 1, none⟩ = some (.int .i64 0) := by rw [Lib.cell_of_heap HZ1.out]; rfl
    have zf1 := Lib.frozen_of_heap HZ1.out 1
    have z2 : w1.cell? ⟨(w.heap.size + 1), 2, none⟩ = some (.int .i64 0) := by rw [Lib.cell_of_heap HZ1.out]; rfl
    have zf2 := Lib.frozen_of_heap HZ1.out 2
    have z3 : w1.cell? ⟨(w.heap.size + 1), 3, none⟩ = some (.int .i64 0) := by rw [Lib.cell_of_heap HZ1.out]; rfl
    have zf3 := Lib.frozen_of_heap HZ1.out 3
    have z4 : w1.cell? ⟨(w.heap.size + 1), 4, none⟩ = some (.int .i64 0) := by rw [Lib.cell_of_heap HZ1.out]; rfl
    have zf4 := Lib.frozen_of_heap HZ1.out 4
    have z5 : w1.cell? ⟨(w.heap.size + 1), 5, none⟩ = some (.int .i64 0) := by rw [Lib.cell_of_heap HZ1.out]; rfl
    have zf5 := Lib.frozen_of_heap HZ1.out 5
    have z6 : w1.cell? ⟨(w.heap.size + 1), 6, none⟩ = some (.slice none 0 0) := by rw [Lib.cell_of_heap HZ1.out]; rfl
    have zf6 := Lib.frozen_of_heap HZ1.out 6
    have z7 : w1.cell? ⟨(w.heap.size + 1), 7, none⟩ = some (.slice none 0 0) := by rw [Lib.cell_of_heap HZ1.out]; rfl
    have zf7 := Lib.frozen_of_heap HZ1.out 7
    have z8 : w1.cell? ⟨(w.heap.size + 1), 8, none⟩ = some (.slice none 0 0) := by rw [Lib.cell_of_heap HZ1.out]; rfl
    have zf8 := Lib.frozen_of_heap HZ1.out 8
    have z9 : w1.cell? ⟨(w.heap.size + 1), 9, none⟩ = some (.slice none 0 0) := by rw [Lib.cell_of_heap HZ1.out]; rfl
    have zf9 := Lib.frozen_of_heap HZ1.out 9
    have z10 : w1.cell? ⟨(w.heap.size + 1), 10, none⟩ = some (.slice none 0 0) := by rw [Lib.cell_of_heap HZ1.out]; rfl
    have zf10 := Lib.frozen_of_heap HZ1.out 10
    have z11 : w1.cell? ⟨(w.heap.size + 1), 11, none⟩ = some (.int .i64 0) := by rw [Lib.cell_of_heap HZ1.out]; rfl
    have zf11 := Lib.frozen_of_heap HZ1.out 11
    go_wp2
    obtain ⟨WF, hWF, hhF, hbF, hoF⟩ := set12 w1 (w.heap.size + 1) 42 (.int .i64 0) (.int .i64 0) (.int .i64 0) (.int .i64 0) (.int .i64 0) (.int .i64 0) (.slice none 0 0) (.slice none 0 0) (.slice none 0 0) (.slice none 0 0) (.slice none 0 0) (.int .i64 0) (.int .i64 a) (.int .i64 b) (.int .i64 f) (.int .i64 g0) (.int .i64 mf) (.int .i64 mb) (.slice B p d) (.slice A l.length c) (.slice A1 k c1) (.slice A2 k c2) (.slice A3 k c3) (.int .i64 st.rd) HZ1.out
    rw [hWF]
    have d0 : WF.cell? ⟨(w.heap.size + 1), 0, none⟩ = some (.int .i64 a) := by rw [Lib.cell_of_heap hhF]; rfl
    have df0 := Lib.frozen_of_heap hhF 0
    have d1 : WF.cell? ⟨(w.heap.size + 1), 1, none⟩ = some (.int .i64 b) := by rw [Lib.cell_of_heap hhF]; rfl
    have df1 := Lib.frozen_of_heap hhF 1
    have d2 : WF.cell? ⟨(w.heap.size + 1), 2, none⟩ = some (.int .i64 f) := by rw [Lib.cell_of_heap hhF]; rfl
    have df2 := Lib.frozen_of_heap hhF 2
    have d3 : WF.cell? ⟨(w.heap.size + 1), 3, none⟩ = some (.int .i64 g0) := by rw [Lib.cell_of_heap hhF]; rfl
    have df3 := Lib.frozen_of_heap hhF 3
    have d4 : WF.cell? ⟨(w.heap.size + 1), 4, none⟩ = some (.int .i64 mf) := by rw [Lib.cell_of_heap hhF]; rfl
    have df4 := Lib.frozen_of_heap hhF 4
    have d5 : WF.cell? ⟨(w.heap.size + 1), 5, none⟩ = some (.int .i64 mb) := by rw [Lib.cell_of_heap hhF]; rfl
    have df5 := Lib.frozen_of_heap hhF 5
    have d6 : WF.cell? ⟨(w.heap.size + 1), 6, none⟩ = some (.slice B p d) := by rw [Lib.cell_of_heap hhF]; rfl
    have df6 := Lib.frozen_of_heap hhF 6
    have d7 : WF.cell? ⟨(w.heap.size + 1), 7, none⟩ = some (.slice A l.length c) := by rw [Lib.cell_of_heap hhF]; rfl
    have df7 := Lib.frozen_of_heap hhF 7
    have d8 : WF.cell? ⟨(w.heap.size + 1), 8, none⟩ = some (.slice A1 k c1) := by rw [Lib.cell_of_heap hhF]; rfl
    have df8 := Lib.frozen_of_heap hhF 8
    have d9 : WF.cell? ⟨(w.heap.size + 1), 9, none⟩ = some (.slice A2 k c2) := by rw [Lib.cell_of_heap hhF]; rfl
    have df9 := Lib.frozen_of_heap hhF 9
    have d10 : WF.cell? ⟨(w.heap.size + 1), 10, none⟩ = some (.slice A3 k c3) := by rw [Lib.cell_of_heap hhF]; rfl
    have df10 := Lib.frozen_of_heap hhF 10
    have d11 : WF.cell? ⟨(w.heap.size + 1), 11, none⟩ = some (.int .i64 st.rd) := by rw [Lib.cell_of_heap hhF]; rfl
    have df11 := Lib.frozen_of_heap hhF 11
    refine bodyPost_ret (v := .tuple #[.agg #[.int .i64 a, .int .i64 b, .int .i64 f, .int .i64 g0, .int .i64 mf, .int .i64 mb, .slice B p d, .slice A l.length c, .slice A1 k c1, .slice A2 k c2, .slice A3 k c3, .int .i64 st.rd], .string ⟨#[]⟩, .int .i64 (10)]) (by simp [results, Tryz.results15, go_sem, d0, df0, d1, df1, d2, df2, d3, df3, d4, df4, d5, df5, d6, df6, d7, df7, d8, df8, d9, df9, d10, df10, d11, df11]) rfl ?_
    rw [getF_no HF.out.symm]
    exact ⟨⟨A1, A2, A3, c1, c2, c3⟩, k, rfl, (HG1.out).same HZ1.out hoF, (HB1.out).trans (hbF.mono (by omega)), .inl rfl⟩
  | true =>
    obtain rfl := HN.out HF.out.symm
    generalize hnm : nrmA id = nm at *
    have HNM := Lib.hid hnm
    have HT1 : Hid (TsAt w A1 k st.tr) := Lib.hid HG.out.ts
    have HT2 : Hid (TsAt w A2 k (st.out.map tx)) := Lib.hid HG.out.ds
    have HT3 : Hid (IntsAt w A3 k (st.out.map Prod.snd)) := Lib.hid HG.out.es
    clear hnm HN
    go_wp2
    go_loopw [9] (fun v9 wr => ∃ i : Nat, i ≤ k ∧ v9 = .int .i64 i ∧ Hid (∀ x ∈ st.tr.take i, ¬ x = nm) ∧ wr = w1) (fun v9 _ => k - (intOf v9).toNat)
    case atStart => exact ⟨0, Nat.zero_le _, rfl, Lib.hid (by intro x hx; simp at hx), rfl⟩
    case round =>
      obtain ⟨i, hi, rfl, HNO, rfl⟩ := hrel
      by_cases hlt : i < k
      · obtain ⟨a1, y, rfl, hy, hyb, g1⟩ := HT1.out.2 i hlt
        have gy := (HB1.out.cell (p := a1.add i) (by rw [addBlockT]; exact hyb)).trans g1
        have b0 : (0 : Int) ≤ (i : Int) := by omega
        have b1 : (i : Int) < (k : Int) := by omega
        have b2 : (k : Int) ≤ 9223372036854775807 := by omega
        clear g1 hyb
        by_cases hyn : y = nm
        · subst hyn
          have HIX := Lib.hid (idx_first HNO.out hy)
          obtain ⟨o, ho⟩ : ∃ o, st.out[i]? = some o := ⟨_, List.getElem?_eq_getElem (by rw [HG.out.len2]; exact hlt)⟩
          have HOD : Hid (st.out.getD i ([], 0) = o) := Lib.hid (by rw [List.getD_eq_getElem?_getD, ho]; rfl)
          obtain ⟨a2, s2, rfl, hs2, hb2, g2⟩ := HT2.out.2 i hlt
          obtain ⟨a3, s3, rfl, hs3, hb3, g3⟩ := HT3.out.2 i hlt
          rw [List.getElem?_map, ho] at hs2 hs3
          obtain rfl : tx o = s2 := by simpa using hs2
          obtain rfl : o.2 = s3 := by simpa using hs3
          have gd : wr.drew.cell? (a2.add i) = some (.string (tx o)) := (HB1.out.cell (p := a2.add i) (by rw [addBlockT]; exact hb2)).trans g2
          have ge : wr.drew.cell? (a3.add i) = some (.int .i64 o.2) := (HB1.out.cell (p := a3.add i) (by rw [addBlockT]; exact hb3)).trans g3
          have HZD : Hid (wr.drew.heap[w.heap.size + 1]? = some (.cells #[.int .i64 0, .int .i64 0, .int .i64 0, .int .i64 0, .int .i64 0, .int .i64 0, .slice none 0 0, .slice none 0 0, .slice none 0 0, .slice none 0 0, .slice none 0 0, .int .i64 0] 42 (0, 0))) := HZ1
          have HHD : Hid (wr.drew.heap[w.heap.size]? = some (.cells #[.int .i64 a, .int .i64 b, .int .i64 f, .int .i64 g0, .int .i64 mf, .int .i64 mb, .slice B p d, .slice A l.length c, .slice (some a1) k c1, .slice (some a2) k c2, .slice (some a3) k c3, .int .i64 st.rd] 42 (0, 0))) := HH1
          clear hs2 hs3 g2 g3 ho hy
          generalize hto : tx o = tox at *
          have HTO := Lib.hid hto
          clear hto
          go_wp2_with fail
          clear u0 uf0 u1 uf1 u2 uf2 u3 uf3 u4 uf4 u5 uf5 u6 uf6 u7 uf7 u8 uf8 u9 uf9 u10 uf10 u11 uf11
          have u0 : wr.drew.cell? ⟨w.heap.size, 0, none⟩ = some (.int .i64 a) := by rw [Lib.cell_of_heap HHD.out]; rfl
          have u1 : wr.drew.cell? ⟨w.heap.size, 1, none⟩ = some (.int .i64 b) := by rw [Lib.cell_of_heap HHD.out]; rfl
          have u2 : wr.drew.cell? ⟨w.heap.size, 2, none⟩ = some (.int .i64 f) := by rw [Lib.cell_of_heap HHD.out]; rfl
          have u3 : wr.drew.cell? ⟨w.heap.size, 3, none⟩ = some (.int .i64 g0) := by rw [Lib.cell_of_heap HHD.out]; rfl
          have u4 : wr.drew.cell? ⟨w.heap.size, 4, none⟩ = some (.int .i64 mf) := by rw [Lib.cell_of_heap HHD.out]; rfl
          have u5 : wr.drew.cell? ⟨w.heap.size, 5, none⟩ = some (.int .i64 mb) := by rw [Lib.cell_of_heap HHD.out]; rfl
          have u6 : wr.drew.cell? ⟨w.heap.size, 6, none⟩ = some (.slice B p d) := by rw [Lib.cell_of_heap HHD.out]; rfl
          have u7 : wr.drew.cell? ⟨w.heap.size, 7, none⟩ = some (.slice A l.length c) := by rw [Lib.cell_of_heap HHD.out]; rfl
          have u8 : wr.drew.cell? ⟨w.heap.size, 8, none⟩ = some (.slice (some a1) k c1) := by rw [Lib.cell_of_heap HHD.out]; rfl
          have u9 : wr.drew.cell? ⟨w.heap.size, 9, none⟩ = some (.slice (some a2) k c2) := by rw [Lib.cell_of_heap HHD.out]; rfl
          have u10 : wr.drew.cell? ⟨w.heap.size, 10, none⟩ = some (.slice (some a3) k c3) := by rw [Lib.cell_of_heap HHD.out]; rfl
          have u11 : wr.drew.cell? ⟨w.heap.size, 11, none⟩ = some (.int .i64 st.rd) := by rw [Lib.cell_of_heap HHD.out]; rfl
          refine wp_region_held_drew (S := fun w' => w'.cell? ⟨w.heap.size, 0, none⟩ = some (.int .i64 a) ∧ w'.cell? ⟨w.heap.size, 1, none⟩ = some (.int .i64 b) ∧ w'.cell? ⟨w.heap.size, 2, none⟩ = some (.int .i64 f) ∧ w'.cell? ⟨w.heap.size, 3, none⟩ = some (.int .i64 g0) ∧ w'.cell? ⟨w.heap.size, 4, none⟩ = some (.int .i64 mf) ∧ w'.cell? ⟨w.heap.size, 5, none⟩ = some (.int .i64 mb) ∧ w'.cell? ⟨w.heap.size, 6, none⟩ = some (.slice B p d) ∧ w'.cell? ⟨w.heap.size, 7, none⟩ = some (.slice A l.length c) ∧ w'.cell? ⟨w.heap.size, 8, none⟩ = some (.slice (some a1) k c1) ∧ w'.cell? ⟨w.heap.size, 9, none⟩ = some (.slice (some a2) k c2) ∧ w'.cell? ⟨w.heap.size, 10, none⟩ = some (.slice (some a3) k c3) ∧ w'.cell? ⟨w.heap.size, 11, none⟩ = some (.int .i64 st.rd) ∧ w'.cell? (a2.add i) = some (.string tox) ∧ w'.cell? (a3.add i) = some (.int .i64 o.2)) (by kernel_rfl) ⟨u0, u1, u2, u3, u4, u5, u6, u7, u8, u9, u10, u11, gd, ge⟩ (fun hHeld => ?_)
          have HBD : Hid (Below w.heap.size w wr.drew) := Lib.hid (HB1.out.trans (below_drewF _ _))
          have HGD := Lib.hid (HG.out.below HBD.out)
          generalize wr.drew = wd at *
          --TAKES narthex/narthexref24.Get:8 0..10
          refine wpAnyH_take (i := 0) (oi := ({ dst := some 39, op := Op.load 42 (Operand.tmp 2), type := 42, pos := "ref.go:54", after := #[], guard := none } : Oper)) (v := ?_) rfl (by kernel_rfl) (by kernel_rfl) (by kernel_rfl) (fun _ _ _ h => h) (Or.inl ⟨by rfl, ?_⟩) (by assumption) ?_
          rotate_left 1
          · intro w hSw; (try dsimp only at hSw); go_simp; try with_reducible rfl
          (try simp only [Act.put, List.setIfInBounds_toArray, List.set_cons_zero, List.set_cons_succ])
          refine wpAnyH_take (i := 1) (oi := ({ dst := some 40, op := Op.fieldAddr 42 (Operand.tmp 2) 3, type := 0, pos := "ref.go:54", after := #[{ on := 11, ground := Ground.gcOnly Departure.lateStores }], guard := none } : Oper)) (v := ?_) rfl (by kernel_rfl) (by kernel_rfl) (by kernel_rfl) (fun _ _ _ h => h) (Or.inl ⟨by rfl, ?_⟩) (by assumption) ?_
          rotate_left 1
          · intro w hSw; (try dsimp only at hSw); go_simp; try with_reducible rfl
          (try simp only [Act.put, List.setIfInBounds_toArray, List.set_cons_zero, List.set_cons_succ])
          refine wpAnyH_take (i := 2) (oi := ({ dst := some 41, op := Op.load 22 (Operand.tmp 40), type := 22, pos := "ref.go:54", after := #[{ on := 1, ground := Ground.data }, { on := 11, ground := Ground.gcOnly Departure.lateStores }], guard := none } : Oper)) (v := ?_) rfl (by kernel_rfl) (by kernel_rfl) (by kernel_rfl) (fun _ _ _ h => h) (Or.inl ⟨by rfl, ?_⟩) (by assumption) ?_
          rotate_left 1
          · intro w hSw; (try dsimp only at hSw); go_simp; try with_reducible rfl
          (try simp only [Act.put, List.setIfInBounds_toArray, List.set_cons_zero, List.set_cons_succ])
          refine wpAnyH_take (i := 3) (oi := ({ dst := some 42, op := Op.move (Operand.tmp 9), type := 3, pos := "ref.go:54", after := #[{ on := 11, ground := Ground.gcOnly Departure.lateStores }], guard := none } : Oper)) (v := ?_) rfl (by kernel_rfl) (by kernel_rfl) (by kernel_rfl) (fun _ _ _ h => h) (Or.inl ⟨by rfl, ?_⟩) (by assumption) ?_
          rotate_left 1
          · intro w hSw; (try dsimp only at hSw); go_simp; try with_reducible rfl
          (try simp only [Act.put, List.setIfInBounds_toArray, List.set_cons_zero, List.set_cons_succ])
          refine wpAnyH_take (i := 4) (oi := ({ dst := some 43, op := Op.indexAddr 22 (Operand.tmp 41) (Operand.tmp 42), type := 0, pos := "ref.go:54", after := #[{ on := 2, ground := Ground.data }, { on := 3, ground := Ground.data }, { on := 11, ground := Ground.gcOnly Departure.lateStores }], guard := none } : Oper)) (v := ?_) rfl (by kernel_rfl) (by kernel_rfl) (by kernel_rfl) (fun _ _ _ h => h) (Or.inl ⟨by rfl, ?_⟩) (by assumption) ?_
          rotate_left 1
          · intro w hSw; (try dsimp only at hSw); go_simp; try with_reducible rfl
          (try simp only [Act.put, List.setIfInBounds_toArray, List.set_cons_zero, List.set_cons_succ])
          refine wpAnyH_take (i := 5) (oi := ({ dst := some 44, op := Op.load 9 (Operand.tmp 43), type := 9, pos := "ref.go:54", after := #[{ on := 4, ground := Ground.data }, { on := 11, ground := Ground.gcOnly Departure.lateStores }], guard := none } : Oper)) (v := ?_) rfl (by kernel_rfl) (by kernel_rfl) (by kernel_rfl) (fun _ _ _ h => h) (Or.inl ⟨by rfl, ?_⟩) (by assumption) ?_
          rotate_left 1
          · intro w hSw; (try dsimp only at hSw); go_simp; try with_reducible rfl
          (try simp only [Act.put, List.setIfInBounds_toArray, List.set_cons_zero, List.set_cons_succ])
          refine wpAnyH_take (i := 6) (oi := ({ dst := some 45, op := Op.fieldAddr 42 (Operand.tmp 2) 4, type := 0, pos := "ref.go:54", after := #[{ on := 12, ground := Ground.gcOnly Departure.lateStores }], guard := none } : Oper)) (v := ?_) rfl (by kernel_rfl) (by kernel_rfl) (by kernel_rfl) (fun _ _ _ h => h) (Or.inl ⟨by rfl, ?_⟩) (by assumption) ?_
          rotate_left 1
          · intro w hSw; (try dsimp only at hSw); go_simp; try with_reducible rfl
          (try simp only [Act.put, List.setIfInBounds_toArray, List.set_cons_zero, List.set_cons_succ])
          refine wpAnyH_take (i := 7) (oi := ({ dst := some 46, op := Op.load 40 (Operand.tmp 45), type := 40, pos := "ref.go:54", after := #[{ on := 6, ground := Ground.data }, { on := 12, ground := Ground.gcOnly Departure.lateStores }], guard := none } : Oper)) (v := ?_) rfl (by kernel_rfl) (by kernel_rfl) (by kernel_rfl) (fun _ _ _ h => h) (Or.inl ⟨by rfl, ?_⟩) (by assumption) ?_
          rotate_left 1
          · intro w hSw; (try dsimp only at hSw); go_simp; try with_reducible rfl
          (try simp only [Act.put, List.setIfInBounds_toArray, List.set_cons_zero, List.set_cons_succ])
          refine wpAnyH_take (i := 8) (oi := ({ dst := some 47, op := Op.move (Operand.tmp 9), type := 3, pos := "ref.go:54", after := #[{ on := 12, ground := Ground.gcOnly Departure.lateStores }], guard := none } : Oper)) (v := ?_) rfl (by kernel_rfl) (by kernel_rfl) (by kernel_rfl) (fun _ _ _ h => h) (Or.inl ⟨by rfl, ?_⟩) (by assumption) ?_
          rotate_left 1
          · intro w hSw; (try dsimp only at hSw); go_simp; try with_reducible rfl
          (try simp only [Act.put, List.setIfInBounds_toArray, List.set_cons_zero, List.set_cons_succ])
          refine wpAnyH_take (i := 9) (oi := ({ dst := some 48, op := Op.indexAddr 40 (Operand.tmp 46) (Operand.tmp 47), type := 0, pos := "ref.go:54", after := #[{ on := 7, ground := Ground.data }, { on := 8, ground := Ground.data }, { on := 12, ground := Ground.gcOnly Departure.lateStores }], guard := none } : Oper)) (v := ?_) rfl (by kernel_rfl) (by kernel_rfl) (by kernel_rfl) (fun _ _ _ h => h) (Or.inl ⟨by rfl, ?_⟩) (by assumption) ?_
          rotate_left 1
          · intro w hSw; (try dsimp only at hSw); go_simp; try with_reducible rfl
          (try simp only [Act.put, List.setIfInBounds_toArray, List.set_cons_zero, List.set_cons_succ])
          refine wpAnyH_take (i := 10) (oi := ({ dst := some 49, op := Op.load 3 (Operand.tmp 48), type := 3, pos := "ref.go:54", after := #[{ on := 9, ground := Ground.data }, { on := 12, ground := Ground.gcOnly Departure.lateStores }], guard := none } : Oper)) (v := ?_) rfl (by kernel_rfl) (by kernel_rfl) (by kernel_rfl) (fun _ _ _ h => h) (Or.inl ⟨by rfl, ?_⟩) (by assumption) ?_
          rotate_left 1
          · intro w hSw; (try dsimp only at hSw); go_simp; try with_reducible rfl
          (try simp only [Act.put, List.setIfInBounds_toArray, List.set_cons_zero, List.set_cons_succ])
          --END
          refine wpAnyH_ready (rs := [11]) (by kernel_rfl) (by simp) ?_
          refine AllReadyH.cons (o := _) rfl (fun K hK => ?_) AllReadyH.nil
          have z0 : wd.cell? ⟨(w.heap.size + 1), 0, none⟩ = some (.int .i64 0) := by rw [Lib.cell_of_heap HZD.out]; rfl
          have zf0 := Lib.frozen_of_heap HZD.out 0
          have z1 : wd.cell? ⟨(w.heap.size + 1), 1, none⟩ = some (.int .i64 0) := by rw [Lib.cell_of_heap HZD.out]; rfl
          have zf1 := Lib.frozen_of_heap HZD.out 1
          have z2 : wd.cell? ⟨(w.heap.size + 1), 2, none⟩ = some (.int .i64 0) := by rw [Lib.cell_of_heap HZD.out]; rfl
          have zf2 := Lib.frozen_of_heap HZD.out 2
          have z3 : wd.cell? ⟨(w.heap.size + 1), 3, none⟩ = some (.int .i64 0) := by rw [Lib.cell_of_heap HZD.out]; rfl
          have zf3 := Lib.frozen_of_heap HZD.out 3
          have z4 : wd.cell? ⟨(w.heap.size + 1), 4, none⟩ = some (.int .i64 0) := by rw [Lib.cell_of_heap HZD.out]; rfl
          have zf4 := Lib.frozen_of_heap HZD.out 4
          have z5 : wd.cell? ⟨(w.heap.size + 1), 5, none⟩ = some (.int .i64 0) := by rw [Lib.cell_of_heap HZD.out]; rfl
          have zf5 := Lib.frozen_of_heap HZD.out 5
          have z6 : wd.cell? ⟨(w.heap.size + 1), 6, none⟩ = some (.slice none 0 0) := by rw [Lib.cell_of_heap HZD.out]; rfl
          have zf6 := Lib.frozen_of_heap HZD.out 6
          have z7 : wd.cell? ⟨(w.heap.size + 1), 7, none⟩ = some (.slice none 0 0) := by rw [Lib.cell_of_heap HZD.out]; rfl
          have zf7 := Lib.frozen_of_heap HZD.out 7
          have z8 : wd.cell? ⟨(w.heap.size + 1), 8, none⟩ = some (.slice none 0 0) := by rw [Lib.cell_of_heap HZD.out]; rfl
          have zf8 := Lib.frozen_of_heap HZD.out 8
          have z9 : wd.cell? ⟨(w.heap.size + 1), 9, none⟩ = some (.slice none 0 0) := by rw [Lib.cell_of_heap HZD.out]; rfl
          have zf9 := Lib.frozen_of_heap HZD.out 9
          have z10 : wd.cell? ⟨(w.heap.size + 1), 10, none⟩ = some (.slice none 0 0) := by rw [Lib.cell_of_heap HZD.out]; rfl
          have zf10 := Lib.frozen_of_heap HZD.out 10
          have z11 : wd.cell? ⟨(w.heap.size + 1), 11, none⟩ = some (.int .i64 0) := by rw [Lib.cell_of_heap HZD.out]; rfl
          have zf11 := Lib.frozen_of_heap HZD.out 11
          obtain ⟨WF, hWF, hhF, hbF, hoF⟩ := set12 wd (w.heap.size + 1) 42 (.int .i64 0) (.int .i64 0) (.int .i64 0) (.int .i64 0) (.int .i64 0) (.int .i64 0) (.slice none 0 0) (.slice none 0 0) (.slice none 0 0) (.slice none 0 0) (.slice none 0 0) (.int .i64 0) (.int .i64 a) (.int .i64 b) (.int .i64 f) (.int .i64 g0) (.int .i64 mf) (.int .i64 mb) (.slice B p d) (.slice A l.length c) (.slice (some a1) k c1) (.slice (some a2) k c2) (.slice (some a3) k c3) (.int .i64 st.rd) HZD.out
          go_wp2
          have HHF : Hid (WF.heap[w.heap.size]? = some (.cells #[.int .i64 a, .int .i64 b, .int .i64 f, .int .i64 g0, .int .i64 mf, .int .i64 mb, .slice B p d, .slice A l.length c, .slice (some a1) k c1, .slice (some a2) k c2, .slice (some a3) k c3, .int .i64 st.rd] 42 (0, 0))) := Lib.hid ((hoF _ n01).trans HHD.out)
          have x0 : WF.cell? ⟨w.heap.size, 0, none⟩ = some (.int .i64 a) := by rw [Lib.cell_of_heap HHF.out]; rfl
          have x1 : WF.cell? ⟨w.heap.size, 1, none⟩ = some (.int .i64 b) := by rw [Lib.cell_of_heap HHF.out]; rfl
          have x2 : WF.cell? ⟨w.heap.size, 2, none⟩ = some (.int .i64 f) := by rw [Lib.cell_of_heap HHF.out]; rfl
          have x3 : WF.cell? ⟨w.heap.size, 3, none⟩ = some (.int .i64 g0) := by rw [Lib.cell_of_heap HHF.out]; rfl
          have x4 : WF.cell? ⟨w.heap.size, 4, none⟩ = some (.int .i64 mf) := by rw [Lib.cell_of_heap HHF.out]; rfl
          have x5 : WF.cell? ⟨w.heap.size, 5, none⟩ = some (.int .i64 mb) := by rw [Lib.cell_of_heap HHF.out]; rfl
          have x6 : WF.cell? ⟨w.heap.size, 6, none⟩ = some (.slice B p d) := by rw [Lib.cell_of_heap HHF.out]; rfl
          have x7 : WF.cell? ⟨w.heap.size, 7, none⟩ = some (.slice A l.length c) := by rw [Lib.cell_of_heap HHF.out]; rfl
          have x8 : WF.cell? ⟨w.heap.size, 8, none⟩ = some (.slice (some a1) k c1) := by rw [Lib.cell_of_heap HHF.out]; rfl
          have x9 : WF.cell? ⟨w.heap.size, 9, none⟩ = some (.slice (some a2) k c2) := by rw [Lib.cell_of_heap HHF.out]; rfl
          have x10 : WF.cell? ⟨w.heap.size, 10, none⟩ = some (.slice (some a3) k c3) := by rw [Lib.cell_of_heap HHF.out]; rfl
          have x11 : WF.cell? ⟨w.heap.size, 11, none⟩ = some (.int .i64 st.rd) := by rw [Lib.cell_of_heap HHF.out]; rfl
          refine hK.out _ _ ⟨x0, x1, x2, x3, x4, x5, x6, x7, x8, x9, x10, x11, (hbF.cell (p := a2.add i) (by rw [addBlockT]; omega)).trans gd, (hbF.cell (p := a3.add i) (by rw [addBlockT]; omega)).trans ge⟩ (fun hHeld => ?_)
          clear hK K z0 zf0 z1 zf1 z2 zf2 z3 zf3 z4 zf4 z5 zf5 z6 zf6 z7 zf7 z8 zf8 z9 zf9 z10 zf10 z11 zf11 x0 x1 x2 x3 x4 x5 x6 x7 x8 x9 x10 x11
          (try simp only [Act.put, List.setIfInBounds_toArray, List.set_cons_zero, List.set_cons_succ])
          --TAKES narthex/narthexref24.Get:8 12 13
          refine wpAnyH_take (i := 12) (oi := ({ dst := some 5, op := Op.assign (Operand.tmp 44), type := 9, pos := "ref.go:54", after := #[{ on := 5, ground := Ground.data }, { on := 11, ground := Ground.chain }, { on := 0, ground := Ground.phase }, { on := 1, ground := Ground.phase }, { on := 2, ground := Ground.phase }, { on := 3, ground := Ground.phase }, { on := 4, ground := Ground.phase }, { on := 5, ground := Ground.phase }, { on := 6, ground := Ground.textOnly Departure.lateStores }, { on := 7, ground := Ground.textOnly Departure.lateStores }, { on := 8, ground := Ground.textOnly Departure.lateStores }, { on := 9, ground := Ground.textOnly Departure.lateStores }, { on := 10, ground := Ground.textOnly Departure.lateStores }, { on := 11, ground := Ground.phase }], guard := none } : Oper)) (v := ?_) rfl (by kernel_rfl) (by kernel_rfl) (by kernel_rfl) (fun _ _ _ h => h) (Or.inl ⟨by rfl, ?_⟩) (by assumption) ?_
          rotate_left 1
          · intro w hSw; (try dsimp only at hSw); go_simp; try with_reducible rfl
          (try simp only [Act.put, List.setIfInBounds_toArray, List.set_cons_zero, List.set_cons_succ])
          refine wpAnyH_take (i := 13) (oi := ({ dst := some 6, op := Op.assign (Operand.tmp 49), type := 3, pos := "ref.go:54", after := #[{ on := 10, ground := Ground.data }, { on := 12, ground := Ground.chain }, { on := 0, ground := Ground.phase }, { on := 1, ground := Ground.phase }, { on := 2, ground := Ground.phase }, { on := 3, ground := Ground.phase }, { on := 4, ground := Ground.phase }, { on := 5, ground := Ground.phase }, { on := 6, ground := Ground.phase }, { on := 7, ground := Ground.phase }, { on := 8, ground := Ground.phase }, { on := 9, ground := Ground.phase }, { on := 10, ground := Ground.phase }, { on := 11, ground := Ground.phase }, { on := 12, ground := Ground.phase }], guard := none } : Oper)) (v := ?_) rfl (by kernel_rfl) (by kernel_rfl) (by kernel_rfl) (fun _ _ _ h => h) (Or.inl ⟨by rfl, ?_⟩) (by assumption) ?_
          rotate_left 1
          · intro w hSw; (try dsimp only at hSw); go_simp; try with_reducible rfl
          (try simp only [Act.put, List.setIfInBounds_toArray, List.set_cons_zero, List.set_cons_succ])
          --END
          refine wpAnyH_done (by kernel_rfl) ?_ _
          clear hHeld
          go_wp2
          rw [← HTO.out]
          have d0 : WF.cell? ⟨(w.heap.size + 1), 0, none⟩ = some (.int .i64 a) := by rw [Lib.cell_of_heap hhF]; rfl
          have df0 := Lib.frozen_of_heap hhF 0
          have d1 : WF.cell? ⟨(w.heap.size + 1), 1, none⟩ = some (.int .i64 b) := by rw [Lib.cell_of_heap hhF]; rfl
          have df1 := Lib.frozen_of_heap hhF 1
          have d2 : WF.cell? ⟨(w.heap.size + 1), 2, none⟩ = some (.int .i64 f) := by rw [Lib.cell_of_heap hhF]; rfl
          have df2 := Lib.frozen_of_heap hhF 2
          have d3 : WF.cell? ⟨(w.heap.size + 1), 3, none⟩ = some (.int .i64 g0) := by rw [Lib.cell_of_heap hhF]; rfl
          have df3 := Lib.frozen_of_heap hhF 3
          have d4 : WF.cell? ⟨(w.heap.size + 1), 4, none⟩ = some (.int .i64 mf) := by rw [Lib.cell_of_heap hhF]; rfl
          have df4 := Lib.frozen_of_heap hhF 4
          have d5 : WF.cell? ⟨(w.heap.size + 1), 5, none⟩ = some (.int .i64 mb) := by rw [Lib.cell_of_heap hhF]; rfl
          have df5 := Lib.frozen_of_heap hhF 5
          have d6 : WF.cell? ⟨(w.heap.size + 1), 6, none⟩ = some (.slice B p d) := by rw [Lib.cell_of_heap hhF]; rfl
          have df6 := Lib.frozen_of_heap hhF 6
          have d7 : WF.cell? ⟨(w.heap.size + 1), 7, none⟩ = some (.slice A l.length c) := by rw [Lib.cell_of_heap hhF]; rfl
          have df7 := Lib.frozen_of_heap hhF 7
          have d8 : WF.cell? ⟨(w.heap.size + 1), 8, none⟩ = some (.slice (some a1) k c1) := by rw [Lib.cell_of_heap hhF]; rfl
          have df8 := Lib.frozen_of_heap hhF 8
          have d9 : WF.cell? ⟨(w.heap.size + 1), 9, none⟩ = some (.slice (some a2) k c2) := by rw [Lib.cell_of_heap hhF]; rfl
          have df9 := Lib.frozen_of_heap hhF 9
          have d10 : WF.cell? ⟨(w.heap.size + 1), 10, none⟩ = some (.slice (some a3) k c3) := by rw [Lib.cell_of_heap hhF]; rfl
          have df10 := Lib.frozen_of_heap hhF 10
          have d11 : WF.cell? ⟨(w.heap.size + 1), 11, none⟩ = some (.int .i64 st.rd) := by rw [Lib.cell_of_heap hhF]; rfl
          have df11 := Lib.frozen_of_heap hhF 11
          refine bodyPost_ret (v := .tuple #[.agg #[.int .i64 a, .int .i64 b, .int .i64 f, .int .i64 g0, .int .i64 mf, .int .i64 mb, .slice B p d, .slice A l.length c, .slice (some a1) k c1, .slice (some a2) k c2, .slice (some a3) k c3, .int .i64 st.rd], .string (tx o), .int .i64 (o.2)]) (by simp [results, Tryz.results15, go_sem, d0, df0, d1, df1, d2, df2, d3, df3, d4, df4, d5, df5, d6, df6, d7, df7, d8, df8, d9, df9, d10, df10, d11, df11]) rfl ?_
          rw [getF_old HF.out.symm (by rw [HNM.out]; exact HIX.out), HOD.out]
          exact ⟨⟨some a1, some a2, some a3, c1, c2, c3⟩, k, rfl, (HGD.out).same HZD.out hoF, (HBD.out).trans (hbF.mono (by omega)), .inl rfl⟩
        · have hne := toL_noA hyn
          have HN2 := Lib.hid (no_succ HNO.out hy hyn)
          clear hy hyn
          go_wp2
          go_roundw
          case rel => exact ⟨i + 1, by omega, by go_num, HN2, by first | rfl | trivial⟩
          case measure => simp [intOf]; omega
      · obtain rfl : i = k := by omega
        have b1 : ¬ (i : Int) < (i : Int) := by omega
        have HIX : Hid (idxT st.tr nm = none) := Lib.hid (idxT_none.2 (fun x hx => HNO.out x (by rw [← HG.out.len, List.take_length]; exact hx)))
        by_cases hm : mf ≤ (i : Int)
        · have _ := 0
          have z0 : wr.cell? ⟨(w.heap.size + 1), 0, none⟩ = some (.int .i64 0) := by rw [Lib.cell_of_heap HZ1.out]; rfl
          have zf0 := Lib.frozen_of_heap HZ1.out 0
          have z1 : wr.cell? ⟨(w.heap.size + 1), 1, none⟩ = some (.int .i64 0) := by rw [Lib.cell_of_heap HZ1.out]; rfl
          have zf1 := Lib.frozen_of_heap HZ1.out 1
          have z2 : wr.cell? ⟨(w.heap.size + 1), 2, none⟩ = some (.int .i64 0) := by rw [Lib.cell_of_heap HZ1.out]; rfl
          have zf2 := Lib.frozen_of_heap HZ1.out 2
          have z3 : wr.cell? ⟨(w.heap.size + 1), 3, none⟩ = some (.int .i64 0) := by rw [Lib.cell_of_heap HZ1.out]; rfl
          have zf3 := Lib.frozen_of_heap HZ1.out 3
          have z4 : wr.cell? ⟨(w.heap.size + 1), 4, none⟩ = some (.int .i64 0) := by rw [Lib.cell_of_heap HZ1.out]; rfl
          have zf4 := Lib.frozen_of_heap HZ1.out 4
          have z5 : wr.cell? ⟨(w.heap.size + 1), 5, none⟩ = some (.int .i64 0) := by rw [Lib.cell_of_heap HZ1.out]; rfl
          have zf5 := Lib.frozen_of_heap HZ1.out 5
          have z6 : wr.cell? ⟨(w.heap.size + 1), 6, none⟩ = some (.slice none 0 0) := by rw [Lib.cell_of_heap HZ1.out]; rfl
          have zf6 := Lib.frozen_of_heap HZ1.out 6
          have z7 : wr.cell? ⟨(w.heap.size + 1), 7, none⟩ = some (.slice none 0 0) := by rw [Lib.cell_of_heap HZ1.out]; rfl
          have zf7 := Lib.frozen_of_heap HZ1.out 7
          have z8 : wr.cell? ⟨(w.heap.size + 1), 8, none⟩ = some (.slice none 0 0) := by rw [Lib.cell_of_heap HZ1.out]; rfl
          have zf8 := Lib.frozen_of_heap HZ1.out 8
          have z9 : wr.cell? ⟨(w.heap.size + 1), 9, none⟩ = some (.slice none 0 0) := by rw [Lib.cell_of_heap HZ1.out]; rfl
          have zf9 := Lib.frozen_of_heap HZ1.out 9
          have z10 : wr.cell? ⟨(w.heap.size + 1), 10, none⟩ = some (.slice none 0 0) := by rw [Lib.cell_of_heap HZ1.out]; rfl
          have zf10 := Lib.frozen_of_heap HZ1.out 10
          have z11 : wr.cell? ⟨(w.heap.size + 1), 11, none⟩ = some (.int .i64 0) := by rw [Lib.cell_of_heap HZ1.out]; rfl
          have zf11 := Lib.frozen_of_heap HZ1.out 11
          go_wp2
          obtain ⟨WF, hWF, hhF, hbF, hoF⟩ := set12 wr (w.heap.size + 1) 42 (.int .i64 0) (.int .i64 0) (.int .i64 0) (.int .i64 0) (.int .i64 0) (.int .i64 0) (.slice none 0 0) (.slice none 0 0) (.slice none 0 0) (.slice none 0 0) (.slice none 0 0) (.int .i64 0) (.int .i64 a) (.int .i64 b) (.int .i64 f) (.int .i64 g0) (.int .i64 mf) (.int .i64 mb) (.slice B p d) (.slice A l.length c) (.slice A1 i c1) (.slice A2 i c2) (.slice A3 i c3) (.int .i64 st.rd) HZ1.out
          rw [hWF]
          have d0 : WF.cell? ⟨(w.heap.size + 1), 0, none⟩ = some (.int .i64 a) := by rw [Lib.cell_of_heap hhF]; rfl
          have df0 := Lib.frozen_of_heap hhF 0
          have d1 : WF.cell? ⟨(w.heap.size + 1), 1, none⟩ = some (.int .i64 b) := by rw [Lib.cell_of_heap hhF]; rfl
          have df1 := Lib.frozen_of_heap hhF 1
          have d2 : WF.cell? ⟨(w.heap.size + 1), 2, none⟩ = some (.int .i64 f) := by rw [Lib.cell_of_heap hhF]; rfl
          have df2 := Lib.frozen_of_heap hhF 2
          have d3 : WF.cell? ⟨(w.heap.size + 1), 3, none⟩ = some (.int .i64 g0) := by rw [Lib.cell_of_heap hhF]; rfl
          have df3 := Lib.frozen_of_heap hhF 3
          have d4 : WF.cell? ⟨(w.heap.size + 1), 4, none⟩ = some (.int .i64 mf) := by rw [Lib.cell_of_heap hhF]; rfl
          have df4 := Lib.frozen_of_heap hhF 4
          have d5 : WF.cell? ⟨(w.heap.size + 1), 5, none⟩ = some (.int .i64 mb) := by rw [Lib.cell_of_heap hhF]; rfl
          have df5 := Lib.frozen_of_heap hhF 5
          have d6 : WF.cell? ⟨(w.heap.size + 1), 6, none⟩ = some (.slice B p d) := by rw [Lib.cell_of_heap hhF]; rfl
          have df6 := Lib.frozen_of_heap hhF 6
          have d7 : WF.cell? ⟨(w.heap.size + 1), 7, none⟩ = some (.slice A l.length c) := by rw [Lib.cell_of_heap hhF]; rfl
          have df7 := Lib.frozen_of_heap hhF 7
          have d8 : WF.cell? ⟨(w.heap.size + 1), 8, none⟩ = some (.slice A1 i c1) := by rw [Lib.cell_of_heap hhF]; rfl
          have df8 := Lib.frozen_of_heap hhF 8
          have d9 : WF.cell? ⟨(w.heap.size + 1), 9, none⟩ = some (.slice A2 i c2) := by rw [Lib.cell_of_heap hhF]; rfl
          have df9 := Lib.frozen_of_heap hhF 9
          have d10 : WF.cell? ⟨(w.heap.size + 1), 10, none⟩ = some (.slice A3 i c3) := by rw [Lib.cell_of_heap hhF]; rfl
          have df10 := Lib.frozen_of_heap hhF 10
          have d11 : WF.cell? ⟨(w.heap.size + 1), 11, none⟩ = some (.int .i64 st.rd) := by rw [Lib.cell_of_heap hhF]; rfl
          have df11 := Lib.frozen_of_heap hhF 11
          refine bodyPost_ret (v := .tuple #[.agg #[.int .i64 a, .int .i64 b, .int .i64 f, .int .i64 g0, .int .i64 mf, .int .i64 mb, .slice B p d, .slice A l.length c, .slice A1 i c1, .slice A2 i c2, .slice A3 i c3, .int .i64 st.rd], .string ⟨#[]⟩, .int .i64 (11)]) (by simp [results, Tryz.results15, go_sem, d0, df0, d1, df1, d2, df2, d3, df3, d4, df4, d5, df5, d6, df6, d7, df7, d8, df8, d9, df9, d10, df10, d11, df11]) rfl ?_
          rw [getF_full HF.out.symm (by rw [HNM.out]; exact HIX.out) (by rw [HG.out.len]; exact hm)]
          exact ⟨⟨A1, A2, A3, c1, c2, c3⟩, i, rfl, (HG1.out).same HZ1.out hoF, (HB1.out).trans (hbF.mono (by omega)), .inl rfl⟩
        · have CT := rtold_any A l.length c l nm w wr HL.out HB1.out (by omega)
          rw [told_found] at CT
          have CT := Lib.hid CT
          go_wp2_with fail
          refine CT.out.mono ?_
          rintro e w2 ⟨y, rfl, hy, hok, hB2⟩
          have HYP := Lib.hid hy
          have HB2 := Lib.hid (HB1.out.trans (hB2.mono HB1.out.size))
          have HH2 := Lib.hid ((hB2.block _ (by omega)).trans HH1.out)
          have HZ2 := Lib.hid ((hB2.block _ (by omega)).trans HZ1.out)
          have hsz2 : w.heap.size + 2 ≤ w2.heap.size := Nat.le_trans hsz1 hB2.size
          have HOK := Lib.hid hok
          clear CT hy hok hB2 u0 uf0 u1 uf1 u2 uf2 u3 uf3 u4 uf4 u5 uf5 u6 uf6 u7 uf7 u8 uf8 u9 uf9 u10 uf10 u11 uf11
          go_upto_region 12 with (fail)
          obtain ⟨W3, hW3, hb3, hh3, hlt3, q0, q1, q2⟩ := anBox w2 y 51
          rw [hW3]
          clear hW3
          have HB3 := Lib.hid (HB2.out.trans (hb3.mono HB2.out.size))
          have HH3 := Lib.hid ((hb3.block _ (by omega)).trans HH2.out)
          have HZ3 := Lib.hid ((hb3.block _ (by omega)).trans HZ2.out)
          have HOK3 := Lib.hid (HOK.out.below HB3.out)
          have k1 := convB W3 y.D y.n y.c y.da HOK3.out.1
          have hsz3 : w.heap.size + 2 ≤ W3.heap.size := Nat.le_trans hsz2 hb3.size
          have HSZ3 := Lib.hid hsz3
          clear hb3 hh3
          obtain ⟨⟨da, er, rd2⟩, hask⟩ : ∃ t, t = askF (l.map An.pl) mb st.rd nm := ⟨_, rfl⟩
          have HASK := Lib.hid hask
          have HNM2 : Hid (nm = nm) := Lib.hid rfl
          clear hask
          cases hfo : foundA (l.map An.pl) nm
          case' none =>
            have hk3 : (da, er, rd2) = ([], 10, st.rd) := HASK.out.trans (by rw [HNM2.out]; exact ask_none hfo)
            injection hk3 with e1 e2
            injection e2 with e2 e3
            have HM4 : Hid (RMid w #[.int .i64 a, .int .i64 b, .int .i64 f, .int .i64 g0, .int .i64 mf, .int .i64 mb, .slice B p d, .slice A l.length c, .slice A1 i c1, .slice A2 i c2, .slice A3 i c3, .int .i64 (rd2)] W3) := Lib.hid (by rw [e3]; exact ⟨HB3.out, HH3.out, HZ3.out, HSZ3.out⟩)
            have hs4 : Hid (Value.string ⟨#[]⟩ = .string (strOfNums da)) := Lib.hid (by rw [e1]; try rfl)
            have he4 : Hid (Value.int .i64 10 = .int .i64 er) := Lib.hid (by rw [e2])
            clear e1 e2 e3
            go_upto_region 19 with (fail)
            generalize W3 = W4 at *
          case' some x =>
            have hpl : y.pl = x := by rw [HYP.out, hfo]; rfl
            have hpo : y.ok = x.ok := congrArg AnP.ok hpl
            have hpd : y.da = x.da := congrArg AnP.da hpl
            cases hxo : x.ok
            case' false =>
              have hk3 : (da, er, rd2) = ([], 10, st.rd) := HASK.out.trans (by rw [HNM2.out]; exact ask_fail hfo hxo)
              injection hk3 with e1 e2
              injection e2 with e2 e3
              rw [hxo] at hpo
              rw [hpo] at q1
              clear hpl hpd hpo
              have HM4 : Hid (RMid w #[.int .i64 a, .int .i64 b, .int .i64 f, .int .i64 g0, .int .i64 mf, .int .i64 mb, .slice B p d, .slice A l.length c, .slice A1 i c1, .slice A2 i c2, .slice A3 i c3, .int .i64 (rd2)] W3) := Lib.hid (by rw [e3]; exact ⟨HB3.out, HH3.out, HZ3.out, HSZ3.out⟩)
              have hs4 : Hid (Value.string ⟨#[]⟩ = .string (strOfNums da)) := Lib.hid (by rw [e1]; try rfl)
              have he4 : Hid (Value.int .i64 10 = .int .i64 er) := Lib.hid (by rw [e2])
              clear e1 e2 e3
              go_upto_region 19 with (fail)
              generalize W3 = W4 at *
            case' true =>
              rw [hxo] at hpo
              rw [hpo] at q1
              have hlen : (strOfNums y.da).size = x.da.length := by rw [size_nums, hpd]
              rw [hpd] at k1 hlen
              have u0 : W3.cell? ⟨w.heap.size, 0, none⟩ = some (.int .i64 a) := by rw [Lib.cell_of_heap HH3.out]; rfl
              have uf0 := Lib.frozen_of_heap HH3.out 0
              have u1 : W3.cell? ⟨w.heap.size, 1, none⟩ = some (.int .i64 b) := by rw [Lib.cell_of_heap HH3.out]; rfl
              have uf1 := Lib.frozen_of_heap HH3.out 1
              have u2 : W3.cell? ⟨w.heap.size, 2, none⟩ = some (.int .i64 f) := by rw [Lib.cell_of_heap HH3.out]; rfl
              have uf2 := Lib.frozen_of_heap HH3.out 2
              have u3 : W3.cell? ⟨w.heap.size, 3, none⟩ = some (.int .i64 g0) := by rw [Lib.cell_of_heap HH3.out]; rfl
              have uf3 := Lib.frozen_of_heap HH3.out 3
              have u4 : W3.cell? ⟨w.heap.size, 4, none⟩ = some (.int .i64 mf) := by rw [Lib.cell_of_heap HH3.out]; rfl
              have uf4 := Lib.frozen_of_heap HH3.out 4
              have u5 : W3.cell? ⟨w.heap.size, 5, none⟩ = some (.int .i64 mb) := by rw [Lib.cell_of_heap HH3.out]; rfl
              have uf5 := Lib.frozen_of_heap HH3.out 5
              have u6 : W3.cell? ⟨w.heap.size, 6, none⟩ = some (.slice B p d) := by rw [Lib.cell_of_heap HH3.out]; rfl
              have uf6 := Lib.frozen_of_heap HH3.out 6
              have u7 : W3.cell? ⟨w.heap.size, 7, none⟩ = some (.slice A l.length c) := by rw [Lib.cell_of_heap HH3.out]; rfl
              have uf7 := Lib.frozen_of_heap HH3.out 7
              have u8 : W3.cell? ⟨w.heap.size, 8, none⟩ = some (.slice A1 i c1) := by rw [Lib.cell_of_heap HH3.out]; rfl
              have uf8 := Lib.frozen_of_heap HH3.out 8
              have u9 : W3.cell? ⟨w.heap.size, 9, none⟩ = some (.slice A2 i c2) := by rw [Lib.cell_of_heap HH3.out]; rfl
              have uf9 := Lib.frozen_of_heap HH3.out 9
              have u10 : W3.cell? ⟨w.heap.size, 10, none⟩ = some (.slice A3 i c3) := by rw [Lib.cell_of_heap HH3.out]; rfl
              have uf10 := Lib.frozen_of_heap HH3.out 10
              have u11 : W3.cell? ⟨w.heap.size, 11, none⟩ = some (.int .i64 st.rd) := by rw [Lib.cell_of_heap HH3.out]; rfl
              have uf11 := Lib.frozen_of_heap HH3.out 11
              by_cases hgt : mb - st.rd < (x.da.length : Int)
              case' pos =>
                have hk3 : (da, er, rd2) = ([], 11, mb) := HASK.out.trans (ask_limit hfo hxo hgt)
                injection hk3 with e1 e2
                injection e2 with e2 e3
                have HM4 : Hid (RMid w #[.int .i64 a, .int .i64 b, .int .i64 f, .int .i64 g0, .int .i64 mf, .int .i64 mb, .slice B p d, .slice A l.length c, .slice A1 i c1, .slice A2 i c2, .slice A3 i c3, .int .i64 (rd2)] (W3.setCell ⟨w.heap.size, 11, none⟩ (.int .i64 mb))) := Lib.hid (by rw [e3]; exact ⟨HB3.out.setCell (by simp) _, Go.Joins.block_setCell HH3.out _, (setOther n10).trans HZ3.out, by rw [setSize]; exact HSZ3.out⟩)
                have hs4 : Hid (Value.string ⟨#[]⟩ = .string (strOfNums da)) := Lib.hid (by rw [e1]; try rfl)
                have he4 : Hid (Value.int .i64 11 = .int .i64 er) := Lib.hid (by rw [e2])
                clear e1 e2 e3
                clear uf0 uf1 uf2 uf3 uf4 uf5 uf6 uf7 uf8 uf9 uf10
                go_upto_region 19 with (fail)
                generalize W3.setCell ⟨w.heap.size, 11, none⟩ (.int .i64 mb) = W4 at *
              case' neg =>
                have hk3 : (da, er, rd2) = (x.da, 0, st.rd + x.da.length) := HASK.out.trans (ask_ok hfo hxo hgt)
                injection hk3 with e1 e2
                injection e2 with e2 e3
                have HM4 : Hid (RMid w #[.int .i64 a, .int .i64 b, .int .i64 f, .int .i64 g0, .int .i64 mf, .int .i64 mb, .slice B p d, .slice A l.length c, .slice A1 i c1, .slice A2 i c2, .slice A3 i c3, .int .i64 (rd2)] (W3.setCell ⟨w.heap.size, 11, none⟩ (.int .i64 (st.rd + x.da.length)))) := Lib.hid (by rw [e3]; exact ⟨HB3.out.setCell (by simp) _, Go.Joins.block_setCell HH3.out _, (setOther n10).trans HZ3.out, by rw [setSize]; exact HSZ3.out⟩)
                have hs4 : Hid (Value.string (strOfNums x.da) = .string (strOfNums da)) := Lib.hid (by rw [e1]; try rfl)
                have he4 : Hid (Value.int .i64 0 = .int .i64 er) := Lib.hid (by rw [e2])
                clear e1 e2 e3
                clear uf0 uf1 uf2 uf3 uf4 uf5 uf6 uf7 uf8 uf9 uf10
                go_upto_region 19 with (fail)
                generalize W3.setCell ⟨w.heap.size, 11, none⟩ (.int .i64 (st.rd + x.da.length)) = W4 at *
          all_goals
            obtain ⟨i0, hi0, hz0, hz1, hz2⟩ := info_partsO Tryz.infoStrU
            obtain ⟨j0, hj0, hy0, hy1, hy2⟩ := info_partsO Tryz.infoIntP
            have HM := HM4
            clear HM4
            have LEN19 : Hid ((txtCells st.tr).length = i) := Lib.hid (by simp only [txtCells, List.length_map]; exact HG.out.len)
            have LEN20 : Hid ((txtCells (st.out.map tx)).length = i) := Lib.hid (by simp only [txtCells, List.length_map]; exact HG.out.len2)
            have LEN21 : Hid ((numCells (st.out.map Prod.snd)).length = i) := Lib.hid (by simp only [numCells, List.length_map]; exact HG.out.len2)
            go_upto_region 19 with (fail)
            go_cut [11, 12, 13] from 14 (fun v11 v12 v13 wx => v12 = .string (strOfNums da) ∧ v13 = .int .i64 er ∧ ∃ A9 c9, RMid w #[.int .i64 a, .int .i64 b, .int .i64 f, .int .i64 g0, .int .i64 mf, .int .i64 mb, .slice B p d, .slice A l.length c, .slice A9 (i + 1) c9, .slice A2 i c2, .slice A3 i c3, .int .i64 (rd2)] wx ∧ wx.ownsRow w.heap.size 9 1 (.slice A9 (i + 1) c9) (i + 1) (txtCells (st.tr ++ [nm])))
            case first =>
              have SRC := Lib.hid (Source.of_own HG.out.tr)
              have SLT := Lib.hid (own_addr_lt HG.out.tr)
              have D1 := Lib.hid ((Below.refl W4.heap.size W4).alloc (Nat.le_refl _) (.cells #[] 9))
              have hhc := (D1.out.block _ (by have := HM.out.2.2.2; omega)).trans HM.out.2.1
              have c6 : (W4.alloc (.cells #[] 9)).cell? ⟨w.heap.size, 8, none⟩ = some (.slice A1 i c1) := by rw [Lib.cell_of_heap hhc]; rfl
              clear hhc
              have HO1 := Lib.hid (empty_own W4 W4.heap.size 9 (Nat.le_refl _))
              have SR1 := Lib.hid (SRC.out.below SLT.out (HM.out.1.trans (D1.out.mono HM.out.1.size)))
              go_wp2_with (at_builtin; refine wpList_append_src rfl (.tmp 94) (.tmp 96) 22 rfl W4.heap.size 9 i0 (.string ByteArray.empty) 16 Tryz.underlying22 hi0 hz0 hz1 hz2 rfl _ 0 [] rfl HO1.out A1 i c1 (txtCells st.tr) rfl LEN19.out SR1.out (by intro u hu; simp only [txtCells] at hu; obtain ⟨s, _, rfl⟩ := List.mem_map.1 hu; rfl) (by unfold maxLen; omega) (by omega) D1.out.size ?_)
              intro v3 W2 ho3 hg3 _
              have D2 := Lib.hid (D1.out.grown hg3 D1.out.size (fun g h => own_base HO1.out h))
              have HO2 := Lib.hid (ho3.alloc (.cells #[.string nm] 9))
              have HX2 := Lib.hid (Source.lit W2 (.string nm) 9)
              have D3 := Lib.hid (D2.out.alloc D2.out.size (.cells #[.string nm] 9))
              clear ho3 hg3 c6
              go_wp2_with (at_builtin; refine wpList_append_src rfl (.tmp 97) (.tmp 99) 22 rfl W4.heap.size 9 i0 (.string ByteArray.empty) 16 Tryz.underlying22 hi0 hz0 hz1 hz2 rfl v3 i (txtCells st.tr) rfl HO2.out _ 1 1 [.string nm] rfl rfl HX2.out (by intro u hu; simp at hu; subst hu; rfl) (by unfold maxLen; omega) (by omega) D3.out.size ?_)
              intro v6 W6 ho6 hg6 _
              obtain ⟨AN, cN, rfl, -, -⟩ := ownF_shape ho6
              have D := Lib.hid (D3.out.grown hg6 D3.out.size (fun g h => own_base HO2.out h))
              have HO := Lib.hid (ownB ho6 HM.out.1.size)
              clear ho6 hg6 HX2 HO2 D1 D2 D3 HO1 SR1
              have hh6 := (D.out.block _ (by have := HM.out.2.2.2; omega)).trans HM.out.2.1
              have s6 : W6.cell? ⟨w.heap.size, 8, none⟩ = some (.slice A1 i c1) := by rw [Lib.cell_of_heap hh6]; rfl
              have s6f := Lib.frozen_of_heap hh6 8
              have HH6 := Lib.hid hh6
              clear hh6
              go_wp2
              go_meet
              case rel =>
                have M6 : RMid w #[.int .i64 a, .int .i64 b, .int .i64 f, .int .i64 g0, .int .i64 mf, .int .i64 mb, .slice B p d, .slice A l.length c, .slice AN (i + 1) cN, .slice A2 i c2, .slice A3 i c3, .int .i64 (rd2)] (W6.setCell ⟨w.heap.size, 8, none⟩ (.slice AN (i + 1) cN)) := ⟨(HM.out.1.trans (D.out.mono HM.out.1.size)).setCell (by simp) _, Go.Joins.block_setCell HH6.out _, (setOther (by omega)).trans ((D.out.block _ (by have := HM.out.2.2.2; omega)).trans HM.out.2.2.1), by rw [setSize]; exact Nat.le_trans HM.out.2.2.2 D.out.size⟩
                have N6 := own_set (o := 8) (u := .slice AN (i + 1) cN) HO.out HH6.out (by decide)
                rw [show txtCells st.tr ++ [.string nm] = txtCells (st.tr ++ [nm]) from by simp [txtCells]] at N6
                exact ⟨hs4.out, he4.out, AN, cN, M6, N6⟩
            case rest =>
              clear HM
              obtain ⟨rfl, rfl, A9, c9, hm, ow19⟩ := hcut
              have HM := Lib.hid hm
              have OW19 := Lib.hid ow19
              clear hm ow19
              go_upto_region 20 with (fail)
              go_cut [] from 14 (fun wx => ∃ A10 c10, RMid w #[.int .i64 a, .int .i64 b, .int .i64 f, .int .i64 g0, .int .i64 mf, .int .i64 mb, .slice B p d, .slice A l.length c, .slice A9 (i + 1) c9, .slice A10 (i + 1) c10, .slice A3 i c3, .int .i64 (rd2)] wx ∧ wx.ownsRow w.heap.size 9 1 (.slice A9 (i + 1) c9) (i + 1) (txtCells (st.tr ++ [nm])) ∧ wx.ownsRow w.heap.size 9 1 (.slice A10 (i + 1) c10) (i + 1) (txtCells (st.out.map tx ++ [strOfNums da])))
              case first =>
                have SRC := Lib.hid (Source.of_own HG.out.da)
                have SLT := Lib.hid (own_addr_lt HG.out.da)
                have D1 := Lib.hid ((Below.refl wc.heap.size wc).alloc (Nat.le_refl _) (.cells #[] 9))
                have hhc := (D1.out.block _ (by have := HM.out.2.2.2; omega)).trans HM.out.2.1
                have c6 : (wc.alloc (.cells #[] 9)).cell? ⟨w.heap.size, 9, none⟩ = some (.slice A2 i c2) := by rw [Lib.cell_of_heap hhc]; rfl
                clear hhc
                have HO1 := Lib.hid (empty_own wc wc.heap.size 9 (Nat.le_refl _))
                have SR1 := Lib.hid (SRC.out.below SLT.out (HM.out.1.trans (D1.out.mono HM.out.1.size)))
                go_wp2_with (at_builtin; refine wpList_append_src rfl (.tmp 102) (.tmp 104) 22 rfl wc.heap.size 9 i0 (.string ByteArray.empty) 16 Tryz.underlying22 hi0 hz0 hz1 hz2 rfl _ 0 [] rfl HO1.out A2 i c2 (txtCells (st.out.map tx)) rfl LEN20.out SR1.out (by intro u hu; simp only [txtCells] at hu; obtain ⟨s, _, rfl⟩ := List.mem_map.1 hu; rfl) (by unfold maxLen; omega) (by omega) D1.out.size ?_)
                intro v3 W2 ho3 hg3 _
                have D2 := Lib.hid (D1.out.grown hg3 D1.out.size (fun g h => own_base HO1.out h))
                have HO2 := Lib.hid (ho3.alloc (.cells #[.string (strOfNums da)] 9))
                have HX2 := Lib.hid (Source.lit W2 (.string (strOfNums da)) 9)
                have D3 := Lib.hid (D2.out.alloc D2.out.size (.cells #[.string (strOfNums da)] 9))
                clear ho3 hg3 c6
                go_wp2_with (at_builtin; refine wpList_append_src rfl (.tmp 105) (.tmp 107) 22 rfl wc.heap.size 9 i0 (.string ByteArray.empty) 16 Tryz.underlying22 hi0 hz0 hz1 hz2 rfl v3 i (txtCells (st.out.map tx)) rfl HO2.out _ 1 1 [.string (strOfNums da)] rfl rfl HX2.out (by intro u hu; simp at hu; subst hu; rfl) (by unfold maxLen; omega) (by omega) D3.out.size ?_)
                intro v6 W6 ho6 hg6 _
                obtain ⟨AN, cN, rfl, -, -⟩ := ownF_shape ho6
                have D := Lib.hid (D3.out.grown hg6 D3.out.size (fun g h => own_base HO2.out h))
                have HO := Lib.hid (ownB ho6 HM.out.1.size)
                clear ho6 hg6 HX2 HO2 D1 D2 D3 HO1 SR1
                have hh6 := (D.out.block _ (by have := HM.out.2.2.2; omega)).trans HM.out.2.1
                have s6 : W6.cell? ⟨w.heap.size, 9, none⟩ = some (.slice A2 i c2) := by rw [Lib.cell_of_heap hh6]; rfl
                have s6f := Lib.frozen_of_heap hh6 9
                have HH6 := Lib.hid hh6
                clear hh6
                go_wp2
                go_meet
                case rel =>
                  have M6 : RMid w #[.int .i64 a, .int .i64 b, .int .i64 f, .int .i64 g0, .int .i64 mf, .int .i64 mb, .slice B p d, .slice A l.length c, .slice A9 (i + 1) c9, .slice AN (i + 1) cN, .slice A3 i c3, .int .i64 (rd2)] (W6.setCell ⟨w.heap.size, 9, none⟩ (.slice AN (i + 1) cN)) := ⟨(HM.out.1.trans (D.out.mono HM.out.1.size)).setCell (by simp) _, Go.Joins.block_setCell HH6.out _, (setOther (by omega)).trans ((D.out.block _ (by have := HM.out.2.2.2; omega)).trans HM.out.2.2.1), by rw [setSize]; exact Nat.le_trans HM.out.2.2.2 D.out.size⟩
                  have N6 := own_set (o := 9) (u := .slice AN (i + 1) cN) HO.out HH6.out (by decide)
                  rw [show txtCells (st.out.map tx) ++ [.string (strOfNums da)] = txtCells (st.out.map tx ++ [strOfNums da]) from by simp [txtCells]] at N6
                  have P19 := own_set (o := 9) (u := .slice AN (i + 1) cN) (ownF_below OW19.out D.out) HH6.out (by decide)
                  exact ⟨AN, cN, M6, P19, N6⟩
              case rest =>
                clear HM OW19
                obtain ⟨A10, c10, hm, ow19, ow20⟩ := hcut
                have HM := Lib.hid hm
                have OW19 := Lib.hid ow19
                have OW20 := Lib.hid ow20
                clear hm ow19 ow20
                go_upto_region 21 with (fail)
                go_cut [] from 14 (fun wx => ∃ A11 c11, RMid w #[.int .i64 a, .int .i64 b, .int .i64 f, .int .i64 g0, .int .i64 mf, .int .i64 mb, .slice B p d, .slice A l.length c, .slice A9 (i + 1) c9, .slice A10 (i + 1) c10, .slice A11 (i + 1) c11, .int .i64 (rd2)] wx ∧ wx.ownsRow w.heap.size 9 1 (.slice A9 (i + 1) c9) (i + 1) (txtCells (st.tr ++ [nm])) ∧ wx.ownsRow w.heap.size 9 1 (.slice A10 (i + 1) c10) (i + 1) (txtCells (st.out.map tx ++ [strOfNums da])) ∧ wx.ownsRow w.heap.size 3 1 (.slice A11 (i + 1) c11) (i + 1) (numCells (st.out.map Prod.snd ++ [er])))
                case first =>
                  have SRC := Lib.hid (Source.of_own HG.out.er)
                  have SLT := Lib.hid (own_addr_lt HG.out.er)
                  have D1 := Lib.hid ((Below.refl wc.heap.size wc).alloc (Nat.le_refl _) (.cells #[] 3))
                  have hhc := (D1.out.block _ (by have := HM.out.2.2.2; omega)).trans HM.out.2.1
                  have c6 : (wc.alloc (.cells #[] 3)).cell? ⟨w.heap.size, 10, none⟩ = some (.slice A3 i c3) := by rw [Lib.cell_of_heap hhc]; rfl
                  clear hhc
                  have HO1 := Lib.hid (empty_own wc wc.heap.size 3 (Nat.le_refl _))
                  have SR1 := Lib.hid (SRC.out.below SLT.out (HM.out.1.trans (D1.out.mono HM.out.1.size)))
                  go_wp2_with (at_builtin; refine wpList_append_src rfl (.tmp 110) (.tmp 112) 40 rfl wc.heap.size 3 j0 (.int .i64 0) 8 Tryz.underlying40 hj0 hy0 hy1 hy2 rfl _ 0 [] rfl HO1.out A3 i c3 (numCells (st.out.map Prod.snd)) rfl LEN21.out SR1.out (by intro u hu; simp only [numCells] at hu; obtain ⟨s, _, rfl⟩ := List.mem_map.1 hu; rfl) (by unfold maxLen; omega) (by omega) D1.out.size ?_)
                  intro v3 W2 ho3 hg3 _
                  have D2 := Lib.hid (D1.out.grown hg3 D1.out.size (fun g h => own_base HO1.out h))
                  have HO2 := Lib.hid (ho3.alloc (.cells #[.int .i64 er] 3))
                  have HX2 := Lib.hid (Source.lit W2 (.int .i64 er) 3)
                  have D3 := Lib.hid (D2.out.alloc D2.out.size (.cells #[.int .i64 er] 3))
                  clear ho3 hg3 c6
                  go_wp2_with (at_builtin; refine wpList_append_src rfl (.tmp 113) (.tmp 115) 40 rfl wc.heap.size 3 j0 (.int .i64 0) 8 Tryz.underlying40 hj0 hy0 hy1 hy2 rfl v3 i (numCells (st.out.map Prod.snd)) rfl HO2.out _ 1 1 [.int .i64 er] rfl rfl HX2.out (by intro u hu; simp at hu; subst hu; rfl) (by unfold maxLen; omega) (by omega) D3.out.size ?_)
                  intro v6 W6 ho6 hg6 _
                  obtain ⟨AN, cN, rfl, -, -⟩ := ownF_shape ho6
                  have D := Lib.hid (D3.out.grown hg6 D3.out.size (fun g h => own_base HO2.out h))
                  have HO := Lib.hid (ownB ho6 HM.out.1.size)
                  clear ho6 hg6 HX2 HO2 D1 D2 D3 HO1 SR1
                  have hh6 := (D.out.block _ (by have := HM.out.2.2.2; omega)).trans HM.out.2.1
                  have s6 : W6.cell? ⟨w.heap.size, 10, none⟩ = some (.slice A3 i c3) := by rw [Lib.cell_of_heap hh6]; rfl
                  have s6f := Lib.frozen_of_heap hh6 10
                  have HH6 := Lib.hid hh6
                  clear hh6
                  go_wp2
                  go_meet
                  case rel =>
                    have M6 : RMid w #[.int .i64 a, .int .i64 b, .int .i64 f, .int .i64 g0, .int .i64 mf, .int .i64 mb, .slice B p d, .slice A l.length c, .slice A9 (i + 1) c9, .slice A10 (i + 1) c10, .slice AN (i + 1) cN, .int .i64 (rd2)] (W6.setCell ⟨w.heap.size, 10, none⟩ (.slice AN (i + 1) cN)) := ⟨(HM.out.1.trans (D.out.mono HM.out.1.size)).setCell (by simp) _, Go.Joins.block_setCell HH6.out _, (setOther (by omega)).trans ((D.out.block _ (by have := HM.out.2.2.2; omega)).trans HM.out.2.2.1), by rw [setSize]; exact Nat.le_trans HM.out.2.2.2 D.out.size⟩
                    have N6 := own_set (o := 10) (u := .slice AN (i + 1) cN) HO.out HH6.out (by decide)
                    rw [show numCells (st.out.map Prod.snd) ++ [.int .i64 er] = numCells (st.out.map Prod.snd ++ [er]) from by simp [numCells]] at N6
                    have P19 := own_set (o := 10) (u := .slice AN (i + 1) cN) (ownF_below OW19.out D.out) HH6.out (by decide)
                    have P20 := own_set (o := 10) (u := .slice AN (i + 1) cN) (ownF_below OW20.out D.out) HH6.out (by decide)
                    exact ⟨AN, cN, M6, P19, P20, N6⟩
                case rest =>
                  clear HM OW19 OW20
                  obtain ⟨A11, c11, hm, ow19, ow20, ow21⟩ := hcut
                  have HM := Lib.hid hm
                  have OW19 := Lib.hid ow19
                  have OW20 := Lib.hid ow20
                  have OW21 := Lib.hid ow21
                  clear hm ow19 ow20 ow21
                  have hzc := HM.out.2.2.1
                  have hhc := HM.out.2.1
                  have HZC := Lib.hid hzc
                  have HHC := Lib.hid hhc
                  clear hzc hhc
                  have u0 : wc.cell? ⟨w.heap.size, 0, none⟩ = some (.int .i64 a) := by rw [Lib.cell_of_heap HHC.out]; rfl
                  have u1 : wc.cell? ⟨w.heap.size, 1, none⟩ = some (.int .i64 b) := by rw [Lib.cell_of_heap HHC.out]; rfl
                  have u2 : wc.cell? ⟨w.heap.size, 2, none⟩ = some (.int .i64 f) := by rw [Lib.cell_of_heap HHC.out]; rfl
                  have u3 : wc.cell? ⟨w.heap.size, 3, none⟩ = some (.int .i64 g0) := by rw [Lib.cell_of_heap HHC.out]; rfl
                  have u4 : wc.cell? ⟨w.heap.size, 4, none⟩ = some (.int .i64 mf) := by rw [Lib.cell_of_heap HHC.out]; rfl
                  have u5 : wc.cell? ⟨w.heap.size, 5, none⟩ = some (.int .i64 mb) := by rw [Lib.cell_of_heap HHC.out]; rfl
                  have u6 : wc.cell? ⟨w.heap.size, 6, none⟩ = some (.slice B p d) := by rw [Lib.cell_of_heap HHC.out]; rfl
                  have u7 : wc.cell? ⟨w.heap.size, 7, none⟩ = some (.slice A l.length c) := by rw [Lib.cell_of_heap HHC.out]; rfl
                  have u8 : wc.cell? ⟨w.heap.size, 8, none⟩ = some (.slice A9 (i + 1) c9) := by rw [Lib.cell_of_heap HHC.out]; rfl
                  have u9 : wc.cell? ⟨w.heap.size, 9, none⟩ = some (.slice A10 (i + 1) c10) := by rw [Lib.cell_of_heap HHC.out]; rfl
                  have u10 : wc.cell? ⟨w.heap.size, 10, none⟩ = some (.slice A11 (i + 1) c11) := by rw [Lib.cell_of_heap HHC.out]; rfl
                  have u11 : wc.cell? ⟨w.heap.size, 11, none⟩ = some (.int .i64 (rd2)) := by rw [Lib.cell_of_heap HHC.out]; rfl
                  have z0 : wc.cell? ⟨(w.heap.size + 1), 0, none⟩ = some (.int .i64 0) := by rw [Lib.cell_of_heap HZC.out]; rfl
                  have zf0 := Lib.frozen_of_heap HZC.out 0
                  have z1 : wc.cell? ⟨(w.heap.size + 1), 1, none⟩ = some (.int .i64 0) := by rw [Lib.cell_of_heap HZC.out]; rfl
                  have zf1 := Lib.frozen_of_heap HZC.out 1
                  have z2 : wc.cell? ⟨(w.heap.size + 1), 2, none⟩ = some (.int .i64 0) := by rw [Lib.cell_of_heap HZC.out]; rfl
                  have zf2 := Lib.frozen_of_heap HZC.out 2
                  have z3 : wc.cell? ⟨(w.heap.size + 1), 3, none⟩ = some (.int .i64 0) := by rw [Lib.cell_of_heap HZC.out]; rfl
                  have zf3 := Lib.frozen_of_heap HZC.out 3
                  have z4 : wc.cell? ⟨(w.heap.size + 1), 4, none⟩ = some (.int .i64 0) := by rw [Lib.cell_of_heap HZC.out]; rfl
                  have zf4 := Lib.frozen_of_heap HZC.out 4
                  have z5 : wc.cell? ⟨(w.heap.size + 1), 5, none⟩ = some (.int .i64 0) := by rw [Lib.cell_of_heap HZC.out]; rfl
                  have zf5 := Lib.frozen_of_heap HZC.out 5
                  have z6 : wc.cell? ⟨(w.heap.size + 1), 6, none⟩ = some (.slice none 0 0) := by rw [Lib.cell_of_heap HZC.out]; rfl
                  have zf6 := Lib.frozen_of_heap HZC.out 6
                  have z7 : wc.cell? ⟨(w.heap.size + 1), 7, none⟩ = some (.slice none 0 0) := by rw [Lib.cell_of_heap HZC.out]; rfl
                  have zf7 := Lib.frozen_of_heap HZC.out 7
                  have z8 : wc.cell? ⟨(w.heap.size + 1), 8, none⟩ = some (.slice none 0 0) := by rw [Lib.cell_of_heap HZC.out]; rfl
                  have zf8 := Lib.frozen_of_heap HZC.out 8
                  have z9 : wc.cell? ⟨(w.heap.size + 1), 9, none⟩ = some (.slice none 0 0) := by rw [Lib.cell_of_heap HZC.out]; rfl
                  have zf9 := Lib.frozen_of_heap HZC.out 9
                  have z10 : wc.cell? ⟨(w.heap.size + 1), 10, none⟩ = some (.slice none 0 0) := by rw [Lib.cell_of_heap HZC.out]; rfl
                  have zf10 := Lib.frozen_of_heap HZC.out 10
                  have z11 : wc.cell? ⟨(w.heap.size + 1), 11, none⟩ = some (.int .i64 0) := by rw [Lib.cell_of_heap HZC.out]; rfl
                  have zf11 := Lib.frozen_of_heap HZC.out 11
                  go_wp2
                  obtain ⟨WF, hWF, hhF, hbF, hoF⟩ := set12 wc (w.heap.size + 1) 42 (.int .i64 0) (.int .i64 0) (.int .i64 0) (.int .i64 0) (.int .i64 0) (.int .i64 0) (.slice none 0 0) (.slice none 0 0) (.slice none 0 0) (.slice none 0 0) (.slice none 0 0) (.int .i64 0) (.int .i64 a) (.int .i64 b) (.int .i64 f) (.int .i64 g0) (.int .i64 mf) (.int .i64 mb) (.slice B p d) (.slice A l.length c) (.slice A9 (i + 1) c9) (.slice A10 (i + 1) c10) (.slice A11 (i + 1) c11) (.int .i64 (rd2)) HZC.out
                  rw [hWF]
                  have hbw := HM.out.1
                  have hrg : RGOk wc ⟨st.tr ++ [nm], st.out ++ [(da, er)], rd2⟩ ⟨A9, A10, A11, c9, c10, c11⟩ (i + 1) := ⟨by simp [HG.out.len], by simp [HG.out.len2], own0 OW19.out, by simpa [tx] using own0 OW20.out, by simpa using own0 OW21.out⟩
                  have hgn : getF L (l.map An.pl) mf mb st id = (⟨st.tr ++ [nm], st.out ++ [(da, er)], rd2⟩, (da, er)) := by
                    rw [getF_new HF.out.symm (by rw [HNM.out]; exact HIX.out) (by rw [HG.out.len]; omega), HNM.out, ← HASK.out]
                  have d0 : WF.cell? ⟨(w.heap.size + 1), 0, none⟩ = some (.int .i64 a) := by rw [Lib.cell_of_heap hhF]; rfl
                  have df0 := Lib.frozen_of_heap hhF 0
                  have d1 : WF.cell? ⟨(w.heap.size + 1), 1, none⟩ = some (.int .i64 b) := by rw [Lib.cell_of_heap hhF]; rfl
                  have df1 := Lib.frozen_of_heap hhF 1
                  have d2 : WF.cell? ⟨(w.heap.size + 1), 2, none⟩ = some (.int .i64 f) := by rw [Lib.cell_of_heap hhF]; rfl
                  have df2 := Lib.frozen_of_heap hhF 2
                  have d3 : WF.cell? ⟨(w.heap.size + 1), 3, none⟩ = some (.int .i64 g0) := by rw [Lib.cell_of_heap hhF]; rfl
                  have df3 := Lib.frozen_of_heap hhF 3
                  have d4 : WF.cell? ⟨(w.heap.size + 1), 4, none⟩ = some (.int .i64 mf) := by rw [Lib.cell_of_heap hhF]; rfl
                  have df4 := Lib.frozen_of_heap hhF 4
                  have d5 : WF.cell? ⟨(w.heap.size + 1), 5, none⟩ = some (.int .i64 mb) := by rw [Lib.cell_of_heap hhF]; rfl
                  have df5 := Lib.frozen_of_heap hhF 5
                  have d6 : WF.cell? ⟨(w.heap.size + 1), 6, none⟩ = some (.slice B p d) := by rw [Lib.cell_of_heap hhF]; rfl
                  have df6 := Lib.frozen_of_heap hhF 6
                  have d7 : WF.cell? ⟨(w.heap.size + 1), 7, none⟩ = some (.slice A l.length c) := by rw [Lib.cell_of_heap hhF]; rfl
                  have df7 := Lib.frozen_of_heap hhF 7
                  have d8 : WF.cell? ⟨(w.heap.size + 1), 8, none⟩ = some (.slice A9 (i + 1) c9) := by rw [Lib.cell_of_heap hhF]; rfl
                  have df8 := Lib.frozen_of_heap hhF 8
                  have d9 : WF.cell? ⟨(w.heap.size + 1), 9, none⟩ = some (.slice A10 (i + 1) c10) := by rw [Lib.cell_of_heap hhF]; rfl
                  have df9 := Lib.frozen_of_heap hhF 9
                  have d10 : WF.cell? ⟨(w.heap.size + 1), 10, none⟩ = some (.slice A11 (i + 1) c11) := by rw [Lib.cell_of_heap hhF]; rfl
                  have df10 := Lib.frozen_of_heap hhF 10
                  have d11 : WF.cell? ⟨(w.heap.size + 1), 11, none⟩ = some (.int .i64 (rd2)) := by rw [Lib.cell_of_heap hhF]; rfl
                  have df11 := Lib.frozen_of_heap hhF 11
                  refine bodyPost_ret (v := .tuple #[.agg #[.int .i64 a, .int .i64 b, .int .i64 f, .int .i64 g0, .int .i64 mf, .int .i64 mb, .slice B p d, .slice A l.length c, .slice A9 (i + 1) c9, .slice A10 (i + 1) c10, .slice A11 (i + 1) c11, .int .i64 (rd2)], .string (strOfNums da), .int .i64 (er)]) (by simp [results, Tryz.results15, go_sem, d0, df0, d1, df1, d2, df2, d3, df3, d4, df4, d5, df5, d6, df6, d7, df7, d8, df8, d9, df9, d10, df10, d11, df11]) rfl ?_
                  rw [hgn]
                  exact ⟨⟨A9, A10, A11, c9, c10, c11⟩, i + 1, rfl, (hrg).same HZC.out hoF, (hbw).trans (hbF.mono (by omega)), .inr ⟨fun b hb => own_base OW19.out hb, fun b hb => own_base OW20.out hb⟩⟩
end Go.Proofs.YtkneafpmgbgalaaGreatDoor
/- New's failing ends; what stands beside a guard; the walk of FetchPlays. Conditions: internal/bytealg.MaxLen holds an int. -/
namespace Go.Proofs.YtkneafpmgbgalaaGreatDoor
open Go.RowKit Go.Maps Go.Proofs.YtkneafpmgbgalaaGreatDoor.UriPlain
set_option linter.unusedVariables false
set_option linter.unusedSimpArgs false
def TellNew0 (k : Int) (w : World) (e : Ending) (w' : World) : Prop := e = .returned (.tuple #[.pointer none, .int .i64 k]) ∧ Below w.heap.size w w'
set_option maxRecDepth 100000 in
set_option maxHeartbeats 4000000 in
theorem new_bad (a b mf mb f g0 : Int) (B : Option Addr) (p d : Nat) (L : List ByteArray) (A : Option Addr) (n c : Nat) (w : World) (m : Int) (hk : ¬ checkF mf mb L n = 0)
    (hL : TsAt w B p L) (hp : p ≤ 1048576) (hS : Shorts L) (hm : w.cell? ⟨0, 0, none⟩ = some (.int .i64 m)) :
    Calls Tryz.prog 9 #[cfgV a b mf mb f g0 B p d, .slice A n c] w (TellNew0 (checkF mf mb L n) w) := by
  obtain ⟨W, hW, hbW, hltW, c4, c5, c6⟩ := cfgBox w a b mf mb f g0 B p d 24
  have K1 := fun V => limit_any mf V
  have K2 := fun V => limit_any mb V
  have K3 := acheck_any B p d L W m (hL.below hbW) hp hS (max0_below hm hbW)
  obtain ⟨b1, h1⟩ : ∃ b, b = limB mf := ⟨_, rfl⟩
  obtain ⟨b2, h2⟩ : ∃ b, b = limB mb := ⟨_, rfl⟩
  obtain ⟨ce, h3⟩ : ∃ b, b = checkE L := ⟨_, rfl⟩
  rw [← h1] at K1
  rw [← h2] at K2
  rw [← h3] at K3
  have K1 := Lib.hid K1
  have K2 := Lib.hid K2
  have K3 := Lib.hid K3
  have HBW := Lib.hid hbW
  obtain ⟨kk, hkk⟩ : ∃ k, k = checkF mf mb L n := ⟨_, rfl⟩
  rw [← hkk] at hk ⊢
  have HK : Hid (kk = if b1 = false ∨ b2 = false then 2 else if ce ≠ 0 then ce else if 256 < n then 13 else 0) := Lib.hid (by rw [hkk, h1, h2, h3]; rfl)
  have HNK := Lib.hid hk
  unfold cfgCells at hW
  unfold cfgV
  clear hL hm hS h1 h2 h3 hbW hkk hk
  go_enter Tryz.func9, Tryz.ntmps9
  cases b1 with
  | false =>
    go_wp2_with (first
      | (go_at_call 21
         refine (K1.out _).mono ?_
         rintro e w1 ⟨rfl, rfl⟩))
    go_ret2
    have hkk : kk = 2 := by rw [HK.out]; simp
    subst hkk
    exact ⟨rfl, HBW.out⟩
  | true =>
    cases b2 with
    | false =>
      go_wp2_with (first
        | (go_at_call 21
           first
           | (refine (K1.out _).mono ?_
              rintro e w1 ⟨rfl, rfl⟩)
           | (refine (K2.out _).mono ?_
              rintro e w1 ⟨rfl, rfl⟩)))
      go_ret2
      have hkk : kk = 2 := by rw [HK.out]; simp
      subst hkk
      exact ⟨rfl, HBW.out⟩
    | true =>
      have HK2 : Hid (kk = if ce ≠ 0 then ce else if 256 < n then 13 else 0) := Lib.hid (by rw [HK.out, if_neg (by simp)])
      clear HK
      by_cases hce : ce = 0
      · subst hce
        have hn : 256 < n := by
          refine Classical.byContradiction fun h => HNK.out ?_
          rw [HK2.out, if_neg (by simp), if_neg h]
        have hn2 : (256 : Int) < (n : Int) := by omega
        go_wp2_with (first
          | (go_at_call 21
             first
             | (refine (K1.out _).mono ?_
                rintro e w1 ⟨rfl, rfl⟩)
             | (refine (K2.out _).mono ?_
                rintro e w1 ⟨rfl, rfl⟩))
          | (go_at_call 22
             refine K3.out.mono ?_
             rintro e w1 ⟨rfl, hB1⟩
             have HX := Lib.hid (HBW.out.trans (hB1.mono HBW.out.size))
             clear hB1))
        go_ret2
        have hkk : kk = 13 := by rw [HK2.out, if_neg (by simp), if_pos hn]
        subst hkk
        exact ⟨rfl, HX.out⟩
      · have hcf : (ce == 0) = false := by simpa using hce
        go_wp2_with (first
          | (go_at_call 21
             first
             | (refine (K1.out _).mono ?_
                rintro e w1 ⟨rfl, rfl⟩)
             | (refine (K2.out _).mono ?_
                rintro e w1 ⟨rfl, rfl⟩))
          | (go_at_call 22
             refine K3.out.mono ?_
             rintro e w1 ⟨rfl, hB1⟩
             have HX := Lib.hid (HBW.out.trans (hB1.mono HBW.out.size))
             clear hB1))
        go_ret2
        have hkk : kk = ce := by rw [HK2.out, if_pos hce]
        subst hkk
        exact ⟨rfl, HX.out⟩
theorem get_put {L : List ByteArray} {ps : List AnP} {mf mb : Int} {st : FS} {id : ByteArray} (hps : ∀ a ∈ ps, a.id.size ≤ 4000) : getF L (putA ps) mf mb st id = getF L ps mf mb st id := by
  have ha : askF (putA ps) mb st.rd (nrmA id) = askF ps mb st.rd (nrmA id) := by
    unfold askF
    rw [found_put ps (nrmA id) hps]
  unfold getF
  rw [ha]
theorem may_far {w : World} {base g : Nat} {s : GM} (h : GuardAt w base g s) {k : Nat} {cs : Array Value} {t : TypeId} (hk : w.heap[k]? = some (.cells cs t (0, 0))) (h1 : ¬ t = 58) (h2 : ¬ t = 9) : ¬ s.may g k := by
  rintro (rfl | rfl | hv)
  · rw [h.blk] at hk; injection hk with hk; injection hk with _ hk; exact h1 hk.symm
  · exact mapV_not_cells h.map hk rfl
  · exact own_ne h.trace hk h2 hv
theorem slice_own (A : Option Addr) (n c : Nat) : (Value.slice A n c).ownBlock = A.map Addr.block := by cases A <;> rfl
def NR (s : GM) (X : RGS) : Prop := ∀ b, s.v.ownBlock = some b → X.A1.map Addr.block ≠ some b ∧ X.A2.map Addr.block ≠ some b
theorem RGOk.keep {w w' : World} {st : FS} {X : RGS} {k base g : Nat} {s : GM} (h : RGOk w st X k) (hG : GuardAt w base g s) (hk : KeepG w w' (s.may g)) (nr : NR s X) : RGOk w' st X k := by
  refine ⟨h.len, h.len2, own_same h.tr (fun b hb => hk.block b (own_blk h.tr hb).1 ?_), own_same h.da (fun b hb => hk.block b (own_blk h.da hb).1 ?_), own_same h.er (fun b hb => hk.block b (own_blk h.er hb).1 ?_)⟩
  · rintro (rfl | rfl | hv)
    · exact own_ne h.tr hG.blk (by decide) hb
    · exact own_not_map h.tr hG.map hb
    · rw [slice_own] at hb; exact (nr b hv).1 hb
  · rintro (rfl | rfl | hv)
    · exact own_ne h.da hG.blk (by decide) hb
    · exact own_not_map h.da hG.map hb
    · rw [slice_own] at hb; exact (nr b hv).2 hb
  · rintro (rfl | rfl | hv)
    · exact own_ne h.er hG.blk (by decide) hb
    · exact own_not_map h.er hG.map hb
    · obtain ⟨_, cs, hc⟩ := own_blk hG.trace hv
      exact own_ne h.er hc (by decide) hb
theorem NR.get {w : World} {st : FS} {X : RGS} {k : Nat} {s s' : GM} (nr : NR s X) (h : RGOk w st X k) (ho : s'.v.ownBlock = s.v.ownBlock ∨ ∃ j, s'.v.ownBlock = some j ∧ w.heap.size ≤ j) : NR s' X := by
  intro b hb
  rcases ho with ho | ⟨j, hj, hle⟩
  · exact nr b (ho ▸ hb)
  · rw [hj] at hb
    injection hb with hb
    subst hb
    refine ⟨fun e => ?_, fun e => ?_⟩
    · have := (own_blk h.tr (by rw [slice_own]; exact e)).1; omega
    · have := (own_blk h.da (by rw [slice_own]; exact e)).1; omega
theorem NR.next {w : World} {X X' : RGS} {k base g : Nat} {s : GM} (nr : NR s X) (hG : GuardAt w base g s) (h : X' = X ∨ (∀ b, (Value.slice X'.A1 k X'.c1).ownBlock = some b → w.heap.size ≤ b) ∧ ∀ b, (Value.slice X'.A2 k X'.c2).ownBlock = some b → w.heap.size ≤ b) : NR s X' := by
  rcases h with rfl | ⟨h1, h2⟩
  · exact nr
  · intro b hb
    have hlt := (own_blk hG.trace hb).1
    refine ⟨fun e => ?_, fun e => ?_⟩
    · have := h1 b (by rw [slice_own]; exact e); omega
    · have := h2 b (by rw [slice_own]; exact e); omega
theorem GuardAt.aside {w w' : World} {b2 g2 bx : Nat} {s2 : GM} {cs : Array Value} (h : GuardAt w b2 g2 s2) (hb : w.heap[bx]? = some (.cells cs 42 (0, 0))) (hW : ∀ j, j ≠ bx → w'.heap[j]? = w.heap[j]?) : GuardAt w' b2 g2 s2 := by
  have hu : ∀ (k : Nat) (ds : Array Value), w.heap[k]? = some (.cells ds 5 (0, 0)) → w'.heap[k]? = some (.cells ds 5 (0, 0)) := fun k ds hd => (hW k (fun e => by subst e; rw [hb] at hd; cases hd)).trans hd
  have ho : ∀ {e : TypeId} {size : Nat} {v : Value} {n : Nat} {xs : List Value}, ¬ 42 = e → w.ownsRow b2 e size v n xs → w'.ownsRow b2 e size v n xs := fun he ho => own_same ho (fun j hj => hW j (fun e => own_ne ho hb he (e ▸ hj)))
  refine ⟨(hW g2 (fun e => by subst e; have hq := h.blk; rw [hb] at hq; cases hq)).trans h.blk, h.gbase, ho (by decide) h.allow, ⟨ho (by decide) h.script.1, fun y hy => ?_⟩, ho (by decide) h.trace, h.apart, mapV_same h.map (hW _ (fun e => mapV_not_cells h.map hb e)), h.mbase, h.mnum, h.seen, h.vlen, fun y hy => (h.fresh y hy).keep hu⟩
  obtain ⟨j, e1, e2, e3, r⟩ := h.script.2 y hy
  exact ⟨j, e1, e2, hu _ _ e3, r⟩
theorem GOk.aside {w w' : World} {b2 g2 bx : Nat} {s2 : GM} {L : List ByteArray} {ps : List AnP} {mf mb : Int} {st : FS} {cs : Array Value} (h : GOk w b2 g2 L ps mf mb st s2) (hb : w.heap[bx]? = some (.cells cs 42 (0, 0))) (hW : ∀ j, j ≠ bx → w'.heap[j]? = w.heap[j]?) : GOk w' b2 g2 L ps mf mb st s2 :=
  ⟨h.guard.aside hb hW, h.hL, h.ys, h.hmf, h.sum, h.hst, h.vz, h.ok⟩
theorem BOwn.aside {w w' : World} {R : Option Addr} {n : Nat} {da : List Int} {bx : Nat} {cs : Array Value} (h : BOwn w R n da) (hb : w.heap[bx]? = some (.cells cs 42 (0, 0))) (hbel : Below bx w w') (hW : ∀ j, j ≠ bx → w'.heap[j]? = w.heap[j]?) : BOwn w' R n da :=
  h.keep (P := fun j => j = bx) ⟨hbel.os, hbel.tape, hbel.output, hbel.size, fun j _ hj => hW j hj⟩ (fun j ds hd e => by subst e; rw [hb] at hd; cases hd)
theorem rgBox (w : World) (cs : Array Value) (t : TypeId) : ∃ W, w.alloc (.cells cs t) = W ∧ Below w.heap.size w W ∧ W.heap[w.heap.size]? = some (.cells cs t (0, 0)) ∧ w.heap.size < W.heap.size :=
  ⟨_, rfl, (Below.refl _ w).alloc (Nat.le_refl _) _, heap_alloc_new w _, by simp⟩
theorem lt_of_blk {w : World} {b : Nat} {o : Obj} (h : w.heap[b]? = some o) : b < w.heap.size := (Array.getElem?_eq_some_iff.1 h).1
theorem frLow {w0 w : World} {X X' : RGS} {k : Nat} (h : X' = X ∨ (∀ b, (Value.slice X'.A1 k X'.c1).ownBlock = some b → w.heap.size ≤ b) ∧ ∀ b, (Value.slice X'.A2 k X'.c2).ownBlock = some b → w.heap.size ≤ b) (hs : w0.heap.size ≤ w.heap.size) :
    X' = X ∨ (∀ b, X'.A1.map Addr.block = some b → w0.heap.size ≤ b) ∧ ∀ b, X'.A2.map Addr.block = some b → w0.heap.size ≤ b :=
  h.imp id (fun ⟨h1, h2⟩ => ⟨fun b hb => Nat.le_trans hs (h1 b (by rw [slice_own]; exact hb)), fun b hb => Nat.le_trans hs (h2 b (by rw [slice_own]; exact hb))⟩)
theorem NR.next6 {w : World} {X X' : RGS} {base g : Nat} {s : GM} (nr : NR s X) (hG : GuardAt w base g s) (h : X' = X ∨ (∀ b, X'.A1.map Addr.block = some b → w.heap.size ≤ b) ∧ ∀ b, X'.A2.map Addr.block = some b → w.heap.size ≤ b) : NR s X' := by
  rcases h with rfl | ⟨h1, h2⟩
  · exact nr
  · intro b hb
    have hlt := (own_blk hG.trace hb).1
    exact ⟨fun e => by have := h1 b e; omega, fun e => by have := h2 b e; omega⟩
set_option maxRecDepth 100000 in
set_option maxHeartbeats 8000000 in
theorem fetchPlays_any (a b mf mb f g0 : Int) (B : Option Addr) (p d : Nat) (L : List ByteArray) (A : Option Addr) (n c : Nat) (l : List An) (I : Option Addr) (q r : Nat) (ids : List ByteArray) (w : World) (m : Int) (hL : TsAt w B p L) (hp : p ≤ 9223372036854775807) (hl : AnsAt w A n l) (hn : n ≤ 9223372036854775807) (hI : TsAt w I q ids) (hq : q ≤ 9223372036854775807) (hm : w.cell? ⟨0, 0, none⟩ = some (.int .i64 m)) :
    Calls Tryz.prog 4 #[cfgV a b mf mb f g0 B p d, .slice A n c, .slice I q r] w (BelB true w) := by
  obtain rfl := hl.1
  obtain ⟨W, hW, hbW, hC⟩ := cfgBox7 w a b mf mb f g0 B p d 24
  have CG := Lib.hid (great24_any a b mf mb f g0 B p d L A l.length c l I q r ids W (hL.below hbW) hp (hl.below hbW) hn (hI.below hbW) hq)
  have CL := Lib.hid (fun V (hb : Below w.heap.size w V) => live24_any V m (max0_below hm hb))
  have HL := Lib.hid hL
  have HA := Lib.hid hl
  have HI := Lib.hid hI
  have HM := Lib.hid hm
  have HBW := Lib.hid hbW
  have HC := Lib.hid hC
  obtain ⟨z0, z1, z2, z3, z4, z5, z6, z7⟩ := hC
  unfold cfgV at CG
  unfold cfgV
  have HL0 := Lib.hid (World.block_lt_of_cell? _ _ hm)
  clear hL hl hI hm hbW
  go_enter Tryz.func4, Tryz.ntmps4
  go_wp2_with fail
  refine CG.out.mono ?_
  clear hW
  rintro e w1 ⟨bg, rfl, hB1, hbg⟩
  have HB1 := Lib.hid (HBW.out.trans (hB1.mono HBW.out.size))
  obtain ⟨HC1⟩ : Nonempty (Hid (CfgAt w.heap.size a b mf mb f g0 B p d w1)) := ⟨Lib.hid (HC.out.below hB1 z0)⟩
  cases bg with
  | true =>
    clear hbg hB1
    go_wp2_with fail
    refine (CL.out _ HB1.out).mono ?_
    rintro e w2 ⟨rfl, hB2⟩
    go_wp2
    go_ret
    exact ⟨rfl, HB1.out.trans (hB2.mono HB1.out.size)⟩
  | false =>
    obtain ⟨q1, q2, q3, q4, q5, q6⟩ := hbg rfl
    have hp80 : p ≤ 80 := by rw [← HL.out.1]; exact q3
    have hS : Shorts L := fun x hx => Nat.le_trans (q4 x hx) (by decide)
    obtain ⟨ck, hck⟩ : ∃ ck, ck = checkF mf mb L l.length := ⟨_, rfl⟩
    have CC := fun (V : World) (hb : Below w.heap.size w V) => rcheck24_any a b mf mb f g0 B p d L A l.length c V (HL.out.below hb) (by omega) hS
    unfold cfgV at CC
    simp only [← hck] at CC
    have CC := Lib.hid CC
    have HCK := Lib.hid hck
    have HS := Lib.hid hS
    have Q := Lib.hid (And.intro q1 (And.intro q2 (And.intro q5 q6)))
    clear z0 z1 z2 z3 z4 z5 z6 z7 hbg hB1 q1 q2 q3 q4 q5 q6 hck hS CG
    obtain ⟨z0, z1, z2, z3, z4, z5, z6, z7⟩ := HC1.out
    by_cases hck : ck = 0
    · subst hck
      obtain ⟨v1, v2, v3, v4⟩ := check0 HCK.out
      have hx20 : ∀ x ∈ l, x.n ≤ 1048576 := fun x hx => Nat.le_trans (Q.out.2.1 x hx).2 (by decide)
      have hm0 : 0 ≤ mf ∧ mf ≤ 1099511627776 := by unfold limB at v1; simpa using v1
      have hb0 : 0 ≤ mb ∧ mb ≤ 1099511627776 := by unfold limB at v2; simpa using v2
      have HX20 := Lib.hid hx20
      have N1 := new_ok a b mf mb f g0 B p d L A l.length c l w1 m v1 v2 v3 v4 (HL.out.below HB1.out) (by omega) HS.out (HA.out.below HB1.out) hx20 (max0_below HM.out HB1.out)
      unfold cfgV at N1
      have N1 := Lib.hid N1
      have V := Lib.hid (And.intro v1 (And.intro v2 (And.intro v3 v4)))
      have MB := Lib.hid (And.intro hm0 hb0)
      clear v1 v2 v3 v4 hx20 hm0 hb0 HCK
      go_wp2_with fail
      refine N1.out.mono ?_
      rintro e w3 ⟨g, s, T⟩
      obtain rfl := T.ret
      have GO := Lib.hid (GOk.new T MB.out.1.1 MB.out.2.1)
      have HB3 := Lib.hid (HB1.out.trans (T.keep.mono HB1.out.size))
      have KE3 := Lib.hid T.keep
      have HC3 := Lib.hid (HC1.out.below T.keep z0)
      clear z0 z1 z2 z3 z4 z5 z6 z7 T N1
      obtain ⟨z0, z1, z2, z3, z4, z5, z6, z7⟩ := HC3.out
      go_wp2_with fail
      refine (CC.out w3 HB3.out).mono ?_
      rintro e w4 ⟨rfl, hB4⟩
      have GO := Lib.hid (GO.out.below hB4)
      have HB4 := Lib.hid (HB3.out.trans (hB4.mono HB3.out.size))
      have KE4 := Lib.hid (KE3.out.trans (hB4.mono KE3.out.size))
      have HC4 := Lib.hid (HC3.out.below hB4 z0)
      have hg1 : 0 < g := Nat.lt_of_lt_of_le (Nat.lt_of_lt_of_le HL0.out HB1.out.size) GO.out.guard.gbase
      clear z0 z1 z2 z3 z4 z5 z6 z7 hB4 CC
      obtain ⟨z0, z1, z2, z3, z4, z5, z6, z7⟩ := HC4.out
      go_upto_region 10 with (fail)
      obtain ⟨W5, hW5, hb5, hx5, hlt5⟩ := rgBox w4 #[.int .i64 a, .int .i64 b, .int .i64 f, .int .i64 g0, .int .i64 mf, .int .i64 mb, .slice B p d, .slice A l.length c, .slice none 0 0, .slice none 0 0, .slice none 0 0, .int .i64 0] 42
      rw [hW5]
      have GO5 := Lib.hid (GO.out.below hb5)
      have KE5 := Lib.hid (KE4.out.trans (hb5.mono KE4.out.size))
      have HX5 := Lib.hid hx5
      have HW14 : Hid (w1.heap.size ≤ w4.heap.size) := Lib.hid KE4.out.size
      clear hW5 hb5 hx5 hlt5 z0 z1 z2 z3 z4 z5 z6 z7 GO
      obtain ⟨P1, hP1⟩ : ∃ P1, P1 = putA (l.map An.pl) := ⟨_, rfl⟩
      rw [← hP1] at GO5
      have hsm : ∀ a ∈ l.map An.pl, a.id.size ≤ 4000 ∧ a.da.length ≤ 1048576 := by
        intro a ha
        obtain ⟨x, hx, rfl⟩ := List.mem_map.1 ha
        have h1 := (HA.out.ok x hx).1.1
        exact ⟨Nat.le_trans (Q.out.2.1 x hx).1 (by decide), by show x.da.length ≤ _; rw [h1]; exact HX20.out x hx⟩
      have D1 : Hid (P1.length ≤ 1048576 ∧ ∀ a ∈ P1, a.da.length ≤ 1048576) := Lib.hid (by
        rw [hP1]
        refine ⟨Nat.le_trans (putA_len _) (by rw [List.length_map]; have := V.out.2.2.2; omega), fun a ha => ?_⟩
        rcases putA_daF _ a ha with h | ⟨x, hx, h⟩
        · rw [h]; exact Nat.zero_le _
        · rw [h]; exact (hsm x hx).2)
      have PUT : Hid (∀ (st : FS) (id : ByteArray), getF L (l.map An.pl) mf mb st id = getF L P1 mf mb st id) := Lib.hid (fun st id => by rw [hP1]; exact (get_put (fun a ha => (hsm a ha).1)).symm)
      have hlp : L.length ≤ 1048576 := by rw [HL.out.1]; omega
      have hb2 : 0 < w1.heap.size := Nat.lt_of_lt_of_le HL0.out HB1.out.size
      clear hsm hP1
      go_wp2
      go_loopw [11, 12, 13, 14, 15, 16] (fun v11 v12 v13 v14 v15 v16 wr => ∃ (i : Nat) (st : FS) (s1 : GM) (X : RGS) (k : Nat), i ≤ q ∧ v11 = .int .i64 i ∧ Hid (GOk wr w1.heap.size g L P1 mf mb st s1) ∧ Hid (RGOk wr st X k) ∧ Hid (wr.heap[w4.heap.size]? = some (.cells #[.int .i64 a, .int .i64 b, .int .i64 f, .int .i64 g0, .int .i64 mf, .int .i64 mb, .slice B p d, .slice A l.length c, .slice X.A1 k X.c1, .slice X.A2 k X.c2, .slice X.A3 k X.c3, .int .i64 st.rd] 42 (0, 0))) ∧ Hid (NR s1 X) ∧ Hid (st.tr.length ≤ i) ∧ Hid (Below w1.heap.size w1 wr)) (fun v11 _ _ _ _ _ _ => q - (intOf v11).toNat)
      case atStart => exact ⟨0, fs0, s, ⟨none, none, none, 0, 0, 0⟩, 0, Nat.zero_le _, rfl, GO5, Lib.hid ⟨rfl, rfl, World.ownsRow_nil _ _ _ _, World.ownsRow_nil _ _ _ _, World.ownsRow_nil _ _ _ _⟩, HX5, Lib.hid (fun b hb => ⟨by simp, by simp⟩), Lib.hid (Nat.le_refl _), KE5⟩
      case round =>
        obtain ⟨i, st, s1, X, k, hi, rfl, HG, HRG, HX, HNR, HTR, HB⟩ := hrel
        have HBW1 := Lib.hid (HB1.out.trans (HB.out.mono HB1.out.size))
        by_cases hlt : i < q
        · obtain ⟨a1, x, rfl, hx, hxb, g1⟩ := HI.out.2 i hlt
          have b0 : (0 : Int) ≤ (i : Int) := by omega
          have b1 : (i : Int) < (q : Int) := by omega
          have hxs : x.size ≤ 200 := Q.out.2.2.2 x (List.mem_of_getElem? hx)
          have hq30 := Q.out.2.2.1
          have hiq := HI.out.1
          have htl := HTR.out
          have C1 := Lib.hid (get_step w1.heap.size g L P1 mf mb st s1 x wr m HG.out (max0_below HM.out HBW1.out) hb2 hlp HS.out D1.out.1 D1.out.2 (by omega) MB.out.2.2)
          have gx := (HBW1.out.cell (p := a1.add i) (by rw [addBlockT]; exact hxb)).trans g1
          have STN : Hid ((getF L P1 mf mb st x).1.tr.length ≤ i + 1) := Lib.hid (Nat.le_trans (getF_tr L P1 mf mb st x) (by omega))
          clear hx
          go_wp2_with fail
          refine C1.out.mono ?_
          rintro e w6 ⟨s1', R1, n1, c1', T1⟩
          obtain rfl := T1.ret
          have HG6 := Lib.hid T1.ok
          have BY6 := Lib.hid T1.bytes
          have RG6 := Lib.hid (HRG.out.keep HG.out.guard T1.keep HNR.out)
          have NR6 := Lib.hid (HNR.out.get HRG.out T1.own)
          have HX6 := Lib.hid ((T1.keep.block _ (lt_of_blk HX.out) (may_far HG.out.guard HX.out (by decide) (by decide))).trans HX.out)
          have HB6 := Lib.hid (HB.out.trans (T1.keep.below HB.out.size (fun j hj => may_base HG.out.guard hj)))
          have HBW6 := Lib.hid (HB1.out.trans (HB6.out.mono HB1.out.size))
          have gx6 := (HBW6.out.cell (p := a1.add i) (by rw [addBlockT]; exact hxb)).trans g1
          have hkk := HRG.out.len
          have r0 := HG.out.ok.rd0
          have r1 := HG.out.ok.rdm
          have hl260 := Q.out.1
          have CR := fun V (hb : Below w6.heap.size w6 V) => rget_any a b mf mb f g0 B p d L A l.length c l st X k x V (HL.out.below (HBW6.out.trans (hb.mono HBW6.out.size))) (by omega) HS.out (HA.out.below (HBW6.out.trans (hb.mono HBW6.out.size))) (by omega) HX20.out (RG6.out.below hb) (by omega) r0 r1 MB.out.2.2 MB.out.1.1
          unfold rgV at CR
          simp only [PUT.out] at CR
          have CR := Lib.hid CR
          clear T1 C1 gx HG HRG HX HNR HB r0 r1 g1
          generalize getF L P1 mf mb st x = gf at *
          obtain ⟨st', da, er⟩ := gf
          go_upto_region 14 with (fail)
          go_cut [14, 15, 16] from 52 to 111 (fun v14 v15 v16 wx => ∃ bk X' k', v14 = .pointer (some ⟨bk, 0, none⟩) ∧ v15 = .string (strOfNums da) ∧ v16 = .int .i64 er ∧ Below w6.heap.size w6 wx ∧ RGOk wx st' X' k' ∧ (X' = X ∨ (∀ b, X'.A1.map Addr.block = some b → w6.heap.size ≤ b) ∧ ∀ b, X'.A2.map Addr.block = some b → w6.heap.size ≤ b) ∧ w6.heap.size ≤ bk ∧ wx.heap[bk]? = some (.cells #[.int .i64 a, .int .i64 b, .int .i64 f, .int .i64 g0, .int .i64 mf, .int .i64 mb, .slice B p d, .slice A l.length c, .slice X'.A1 k' X'.c1, .slice X'.A2 k' X'.c2, .slice X'.A3 k' X'.c3, .int .i64 st'.rd] 42 (0, 0)))
          case first =>
            have gx6 := gx6
            have HXV : Hid (w6.drew.heap[w4.heap.size]? = some (.cells #[.int .i64 a, .int .i64 b, .int .i64 f, .int .i64 g0, .int .i64 mf, .int .i64 mb, .slice B p d, .slice A l.length c, .slice X.A1 k X.c1, .slice X.A2 k X.c2, .slice X.A3 k X.c3, .int .i64 st.rd] 42 (0, 0))) := HX6
            have u0 : w6.drew.cell? ⟨w4.heap.size, 0, none⟩ = some (.int .i64 a) := by rw [Lib.cell_of_heap HXV.out]; rfl
            have u1 : w6.drew.cell? ⟨w4.heap.size, 1, none⟩ = some (.int .i64 b) := by rw [Lib.cell_of_heap HXV.out]; rfl
            have u2 : w6.drew.cell? ⟨w4.heap.size, 2, none⟩ = some (.int .i64 f) := by rw [Lib.cell_of_heap HXV.out]; rfl
            have u3 : w6.drew.cell? ⟨w4.heap.size, 3, none⟩ = some (.int .i64 g0) := by rw [Lib.cell_of_heap HXV.out]; rfl
            have u4 : w6.drew.cell? ⟨w4.heap.size, 4, none⟩ = some (.int .i64 mf) := by rw [Lib.cell_of_heap HXV.out]; rfl
            have u5 : w6.drew.cell? ⟨w4.heap.size, 5, none⟩ = some (.int .i64 mb) := by rw [Lib.cell_of_heap HXV.out]; rfl
            have u6 : w6.drew.cell? ⟨w4.heap.size, 6, none⟩ = some (.slice B p d) := by rw [Lib.cell_of_heap HXV.out]; rfl
            have u7 : w6.drew.cell? ⟨w4.heap.size, 7, none⟩ = some (.slice A l.length c) := by rw [Lib.cell_of_heap HXV.out]; rfl
            have u8 : w6.drew.cell? ⟨w4.heap.size, 8, none⟩ = some (.slice X.A1 k X.c1) := by rw [Lib.cell_of_heap HXV.out]; rfl
            have u9 : w6.drew.cell? ⟨w4.heap.size, 9, none⟩ = some (.slice X.A2 k X.c2) := by rw [Lib.cell_of_heap HXV.out]; rfl
            have u10 : w6.drew.cell? ⟨w4.heap.size, 10, none⟩ = some (.slice X.A3 k X.c3) := by rw [Lib.cell_of_heap HXV.out]; rfl
            have u11 : w6.drew.cell? ⟨w4.heap.size, 11, none⟩ = some (.int .i64 st.rd) := by rw [Lib.cell_of_heap HXV.out]; rfl
            have gxd : w6.drew.cell? (a1.add i) = some (.string x) := gx6
            refine wp_region_held_drew (S := fun w' => w'.cell? ⟨w4.heap.size, 0, none⟩ = some (.int .i64 a) ∧ w'.cell? ⟨w4.heap.size, 1, none⟩ = some (.int .i64 b) ∧ w'.cell? ⟨w4.heap.size, 2, none⟩ = some (.int .i64 f) ∧ w'.cell? ⟨w4.heap.size, 3, none⟩ = some (.int .i64 g0) ∧ w'.cell? ⟨w4.heap.size, 4, none⟩ = some (.int .i64 mf) ∧ w'.cell? ⟨w4.heap.size, 5, none⟩ = some (.int .i64 mb) ∧ w'.cell? ⟨w4.heap.size, 6, none⟩ = some (.slice B p d) ∧ w'.cell? ⟨w4.heap.size, 7, none⟩ = some (.slice A l.length c) ∧ w'.cell? ⟨w4.heap.size, 8, none⟩ = some (.slice X.A1 k X.c1) ∧ w'.cell? ⟨w4.heap.size, 9, none⟩ = some (.slice X.A2 k X.c2) ∧ w'.cell? ⟨w4.heap.size, 10, none⟩ = some (.slice X.A3 k X.c3) ∧ w'.cell? ⟨w4.heap.size, 11, none⟩ = some (.int .i64 st.rd) ∧ w'.cell? (a1.add i) = some (.string x)) (by kernel_rfl) ⟨u0, u1, u2, u3, u4, u5, u6, u7, u8, u9, u10, u11, gxd⟩ (fun hHeld => ?_)
            have GXV := Lib.hid gxd
            have HBV := Lib.hid (below_drewF w6.heap.size w6)
            clear gxd u0 u1 u2 u3 u4 u5 u6 u7 u8 u9 u10 u11
            generalize w6.drew = V0 at *
            --TAKES narthex/narthexlaw24.FetchPlays:14 0..4
            refine wpAnyH_take (i := 0) (oi := ({ dst := some 68, op := Op.load 42 (Operand.tmp 10), type := 42, pos := "law.go:47", after := #[], guard := none } : Oper)) (v := ?_) rfl (by kernel_rfl) (by kernel_rfl) (by kernel_rfl) (fun _ _ _ h => h) (Or.inl ⟨by rfl, ?_⟩) (by assumption) ?_
            rotate_left 1
            · intro w hSw; (try dsimp only at hSw); go_simp; try with_reducible rfl
            (try simp only [Act.put, List.setIfInBounds_toArray, List.set_cons_zero, List.set_cons_succ])
            refine wpAnyH_take (i := 1) (oi := ({ dst := some 69, op := Op.move (Operand.tmp 2), type := 22, pos := "law.go:47", after := #[], guard := none } : Oper)) (v := ?_) rfl (by kernel_rfl) (by kernel_rfl) (by kernel_rfl) (fun _ _ _ h => h) (Or.inl ⟨by rfl, ?_⟩) (by assumption) ?_
            rotate_left 1
            · intro w hSw; (try dsimp only at hSw); go_simp; try with_reducible rfl
            (try simp only [Act.put, List.setIfInBounds_toArray, List.set_cons_zero, List.set_cons_succ])
            refine wpAnyH_take (i := 2) (oi := ({ dst := some 70, op := Op.move (Operand.tmp 11), type := 3, pos := "law.go:47", after := #[], guard := none } : Oper)) (v := ?_) rfl (by kernel_rfl) (by kernel_rfl) (by kernel_rfl) (fun _ _ _ h => h) (Or.inl ⟨by rfl, ?_⟩) (by assumption) ?_
            rotate_left 1
            · intro w hSw; (try dsimp only at hSw); go_simp; try with_reducible rfl
            (try simp only [Act.put, List.setIfInBounds_toArray, List.set_cons_zero, List.set_cons_succ])
            refine wpAnyH_take (i := 3) (oi := ({ dst := some 71, op := Op.indexAddr 22 (Operand.tmp 69) (Operand.tmp 70), type := 0, pos := "law.go:47", after := #[{ on := 1, ground := Ground.data }, { on := 2, ground := Ground.data }], guard := none } : Oper)) (v := ?_) rfl (by kernel_rfl) (by kernel_rfl) (by kernel_rfl) (fun _ _ _ h => h) (Or.inl ⟨by rfl, ?_⟩) (by assumption) ?_
            rotate_left 1
            · intro w hSw; (try dsimp only at hSw); go_simp; try with_reducible rfl
            (try simp only [Act.put, List.setIfInBounds_toArray, List.set_cons_zero, List.set_cons_succ])
            refine wpAnyH_take (i := 4) (oi := ({ dst := some 72, op := Op.load 9 (Operand.tmp 71), type := 9, pos := "law.go:47", after := #[{ on := 3, ground := Ground.data }], guard := none } : Oper)) (v := ?_) rfl (by kernel_rfl) (by kernel_rfl) (by kernel_rfl) (fun _ _ _ h => h) (Or.inl ⟨by rfl, ?_⟩) (by assumption) ?_
            rotate_left 1
            · intro w hSw; (try dsimp only at hSw); go_simp; try with_reducible rfl
            (try simp only [Act.put, List.setIfInBounds_toArray, List.set_cons_zero, List.set_cons_succ])
            --END
            refine wpAnyH_ready (rs := [5, 10]) (by kernel_rfl) (by simp) ?_
            refine AllReadyH.cons (o := _) rfl (fun K hK => ?_) (AllReadyH.cons (o := _) rfl (fun K hK => ?_) AllReadyH.nil)
            · go_simp
              refine (CR.out V0 HBV.out).mono ?_
              rintro e V1 ⟨X', k', rfl, hrg, hbc, hfr⟩
              simp only [rgV]
              have HRG := Lib.hid hrg
              have HFR := Lib.hid (frLow hfr HBV.out.size)
              have HXV := Lib.hid ((hbc.block _ (lt_of_blk HXV.out)).trans HXV.out)
              have GXV := Lib.hid ((hbc.cell (p := a1.add i) (World.block_lt_of_cell? _ _ GXV.out)).trans GXV.out)
              have HBV0 := HBV
              have HBV := Lib.hid (HBV.out.trans (hbc.mono HBV.out.size))
              have HBC := Lib.hid hbc
              clear hrg hfr hbc
              have s0 : V1.cell? ⟨w4.heap.size, 0, none⟩ = some (.int .i64 a) := by rw [Lib.cell_of_heap HXV.out]; rfl
              have s1 : V1.cell? ⟨w4.heap.size, 1, none⟩ = some (.int .i64 b) := by rw [Lib.cell_of_heap HXV.out]; rfl
              have s2 : V1.cell? ⟨w4.heap.size, 2, none⟩ = some (.int .i64 f) := by rw [Lib.cell_of_heap HXV.out]; rfl
              have s3 : V1.cell? ⟨w4.heap.size, 3, none⟩ = some (.int .i64 g0) := by rw [Lib.cell_of_heap HXV.out]; rfl
              have s4 : V1.cell? ⟨w4.heap.size, 4, none⟩ = some (.int .i64 mf) := by rw [Lib.cell_of_heap HXV.out]; rfl
              have s5 : V1.cell? ⟨w4.heap.size, 5, none⟩ = some (.int .i64 mb) := by rw [Lib.cell_of_heap HXV.out]; rfl
              have s6 : V1.cell? ⟨w4.heap.size, 6, none⟩ = some (.slice B p d) := by rw [Lib.cell_of_heap HXV.out]; rfl
              have s7 : V1.cell? ⟨w4.heap.size, 7, none⟩ = some (.slice A l.length c) := by rw [Lib.cell_of_heap HXV.out]; rfl
              have s8 : V1.cell? ⟨w4.heap.size, 8, none⟩ = some (.slice X.A1 k X.c1) := by rw [Lib.cell_of_heap HXV.out]; rfl
              have s9 : V1.cell? ⟨w4.heap.size, 9, none⟩ = some (.slice X.A2 k X.c2) := by rw [Lib.cell_of_heap HXV.out]; rfl
              have s10 : V1.cell? ⟨w4.heap.size, 10, none⟩ = some (.slice X.A3 k X.c3) := by rw [Lib.cell_of_heap HXV.out]; rfl
              have s11 : V1.cell? ⟨w4.heap.size, 11, none⟩ = some (.int .i64 st.rd) := by rw [Lib.cell_of_heap HXV.out]; rfl
              refine hK.out _ _ ⟨s0, s1, s2, s3, s4, s5, s6, s7, s8, s9, s10, s11, GXV.out⟩ (fun hHeld => ?_)
              clear hK K s0 s1 s2 s3 s4 s5 s6 s7 s8 s9 s10 s11
              (try simp only [Act.put, List.setIfInBounds_toArray, List.set_cons_zero, List.set_cons_succ])
              --TAKES narthex/narthexlaw24.FetchPlays:14 6..9
              refine wpAnyH_take (i := 6) (oi := ({ dst := some 67, op := Op.move (Operand.tmp 73), type := 43, pos := "law.go:47", after := #[{ on := 5, ground := Ground.data }], guard := none } : Oper)) (v := ?_) rfl (by kernel_rfl) (by kernel_rfl) (by kernel_rfl) (fun _ _ _ h => h) (Or.inl ⟨by rfl, ?_⟩) (by assumption) ?_
              rotate_left 1
              · intro w hSw; (try dsimp only at hSw); go_simp; try with_reducible rfl
              (try simp only [Act.put, List.setIfInBounds_toArray, List.set_cons_zero, List.set_cons_succ])
              refine wpAnyH_take (i := 7) (oi := ({ dst := some 74, op := Op.extract (Operand.tmp 67) 0, type := 42, pos := "law.go:47", after := #[{ on := 6, ground := Ground.data }], guard := none } : Oper)) (v := ?_) rfl (by kernel_rfl) (by kernel_rfl) (by kernel_rfl) (fun _ _ _ h => h) (Or.inl ⟨by rfl, ?_⟩) (by assumption) ?_
              rotate_left 1
              · intro w hSw; (try dsimp only at hSw); go_simp; try with_reducible rfl
              (try simp only [Act.put, List.setIfInBounds_toArray, List.set_cons_zero, List.set_cons_succ])
              refine wpAnyH_take (i := 8) (oi := ({ dst := some 75, op := Op.extract (Operand.tmp 67) 1, type := 9, pos := "law.go:47", after := #[{ on := 6, ground := Ground.data }, { on := 11, ground := Ground.gcOnly Departure.lateStores }], guard := none } : Oper)) (v := ?_) rfl (by kernel_rfl) (by kernel_rfl) (by kernel_rfl) (fun _ _ _ h => h) (Or.inl ⟨by rfl, ?_⟩) (by assumption) ?_
              rotate_left 1
              · intro w hSw; (try dsimp only at hSw); go_simp; try with_reducible rfl
              (try simp only [Act.put, List.setIfInBounds_toArray, List.set_cons_zero, List.set_cons_succ])
              refine wpAnyH_take (i := 9) (oi := ({ dst := some 76, op := Op.extract (Operand.tmp 67) 2, type := 3, pos := "law.go:47", after := #[{ on := 6, ground := Ground.data }, { on := 12, ground := Ground.gcOnly Departure.lateStores }], guard := none } : Oper)) (v := ?_) rfl (by kernel_rfl) (by kernel_rfl) (by kernel_rfl) (fun _ _ _ h => h) (Or.inl ⟨by rfl, ?_⟩) (by assumption) ?_
              rotate_left 1
              · intro w hSw; (try dsimp only at hSw); go_simp; try with_reducible rfl
              (try simp only [Act.put, List.setIfInBounds_toArray, List.set_cons_zero, List.set_cons_succ])
              --END
              refine wpAnyH_ready (rs := [10]) (by kernel_rfl) (by simp) ?_
              refine AllReadyH.cons (o := _) rfl (fun K hK => ?_) AllReadyH.nil
              go_simp
              obtain ⟨V2, hV2, hbv, hzv, hltv⟩ := rgBox V1 #[.int .i64 0, .int .i64 0, .int .i64 0, .int .i64 0, .int .i64 0, .int .i64 0, .slice none 0 0, .slice none 0 0, .slice none 0 0, .slice none 0 0, .slice none 0 0, .int .i64 0] 42
              rw [hV2]
              clear hV2
              have HXV := Lib.hid ((hbv.block _ (lt_of_blk HXV.out)).trans HXV.out)
              have GXV := Lib.hid ((hbv.cell (p := a1.add i) (World.block_lt_of_cell? _ _ GXV.out)).trans GXV.out)
              have HBK : Hid (w6.heap.size ≤ V1.heap.size) := Lib.hid HBV.out.size
              have HBV := Lib.hid (HBV.out.trans (hbv.mono HBV.out.size))
              have HZV := Lib.hid hzv
              have HRG := Lib.hid (HRG.out.below hbv)
              clear hbv hzv hltv
              have s0 : V2.cell? ⟨w4.heap.size, 0, none⟩ = some (.int .i64 a) := by rw [Lib.cell_of_heap HXV.out]; rfl
              have s1 : V2.cell? ⟨w4.heap.size, 1, none⟩ = some (.int .i64 b) := by rw [Lib.cell_of_heap HXV.out]; rfl
              have s2 : V2.cell? ⟨w4.heap.size, 2, none⟩ = some (.int .i64 f) := by rw [Lib.cell_of_heap HXV.out]; rfl
              have s3 : V2.cell? ⟨w4.heap.size, 3, none⟩ = some (.int .i64 g0) := by rw [Lib.cell_of_heap HXV.out]; rfl
              have s4 : V2.cell? ⟨w4.heap.size, 4, none⟩ = some (.int .i64 mf) := by rw [Lib.cell_of_heap HXV.out]; rfl
              have s5 : V2.cell? ⟨w4.heap.size, 5, none⟩ = some (.int .i64 mb) := by rw [Lib.cell_of_heap HXV.out]; rfl
              have s6 : V2.cell? ⟨w4.heap.size, 6, none⟩ = some (.slice B p d) := by rw [Lib.cell_of_heap HXV.out]; rfl
              have s7 : V2.cell? ⟨w4.heap.size, 7, none⟩ = some (.slice A l.length c) := by rw [Lib.cell_of_heap HXV.out]; rfl
              have s8 : V2.cell? ⟨w4.heap.size, 8, none⟩ = some (.slice X.A1 k X.c1) := by rw [Lib.cell_of_heap HXV.out]; rfl
              have s9 : V2.cell? ⟨w4.heap.size, 9, none⟩ = some (.slice X.A2 k X.c2) := by rw [Lib.cell_of_heap HXV.out]; rfl
              have s10 : V2.cell? ⟨w4.heap.size, 10, none⟩ = some (.slice X.A3 k X.c3) := by rw [Lib.cell_of_heap HXV.out]; rfl
              have s11 : V2.cell? ⟨w4.heap.size, 11, none⟩ = some (.int .i64 st.rd) := by rw [Lib.cell_of_heap HXV.out]; rfl
              refine hK.out _ _ ⟨s0, s1, s2, s3, s4, s5, s6, s7, s8, s9, s10, s11, GXV.out⟩ (fun hHeld => ?_)
              clear hK K s0 s1 s2 s3 s4 s5 s6 s7 s8 s9 s10 s11
              (try simp only [Act.put, List.setIfInBounds_toArray, List.set_cons_zero, List.set_cons_succ])
              refine wpAnyH_ready (rs := [11]) (by kernel_rfl) (by simp) ?_
              refine AllReadyH.cons (o := _) rfl (fun K hK => ?_) AllReadyH.nil
              have z0 : V2.cell? ⟨V1.heap.size, 0, none⟩ = some (.int .i64 0) := by rw [Lib.cell_of_heap HZV.out]; rfl
              have zf0 := Lib.frozen_of_heap HZV.out 0
              have z1 : V2.cell? ⟨V1.heap.size, 1, none⟩ = some (.int .i64 0) := by rw [Lib.cell_of_heap HZV.out]; rfl
              have zf1 := Lib.frozen_of_heap HZV.out 1
              have z2 : V2.cell? ⟨V1.heap.size, 2, none⟩ = some (.int .i64 0) := by rw [Lib.cell_of_heap HZV.out]; rfl
              have zf2 := Lib.frozen_of_heap HZV.out 2
              have z3 : V2.cell? ⟨V1.heap.size, 3, none⟩ = some (.int .i64 0) := by rw [Lib.cell_of_heap HZV.out]; rfl
              have zf3 := Lib.frozen_of_heap HZV.out 3
              have z4 : V2.cell? ⟨V1.heap.size, 4, none⟩ = some (.int .i64 0) := by rw [Lib.cell_of_heap HZV.out]; rfl
              have zf4 := Lib.frozen_of_heap HZV.out 4
              have z5 : V2.cell? ⟨V1.heap.size, 5, none⟩ = some (.int .i64 0) := by rw [Lib.cell_of_heap HZV.out]; rfl
              have zf5 := Lib.frozen_of_heap HZV.out 5
              have z6 : V2.cell? ⟨V1.heap.size, 6, none⟩ = some (.slice none 0 0) := by rw [Lib.cell_of_heap HZV.out]; rfl
              have zf6 := Lib.frozen_of_heap HZV.out 6
              have z7 : V2.cell? ⟨V1.heap.size, 7, none⟩ = some (.slice none 0 0) := by rw [Lib.cell_of_heap HZV.out]; rfl
              have zf7 := Lib.frozen_of_heap HZV.out 7
              have z8 : V2.cell? ⟨V1.heap.size, 8, none⟩ = some (.slice none 0 0) := by rw [Lib.cell_of_heap HZV.out]; rfl
              have zf8 := Lib.frozen_of_heap HZV.out 8
              have z9 : V2.cell? ⟨V1.heap.size, 9, none⟩ = some (.slice none 0 0) := by rw [Lib.cell_of_heap HZV.out]; rfl
              have zf9 := Lib.frozen_of_heap HZV.out 9
              have z10 : V2.cell? ⟨V1.heap.size, 10, none⟩ = some (.slice none 0 0) := by rw [Lib.cell_of_heap HZV.out]; rfl
              have zf10 := Lib.frozen_of_heap HZV.out 10
              have z11 : V2.cell? ⟨V1.heap.size, 11, none⟩ = some (.int .i64 0) := by rw [Lib.cell_of_heap HZV.out]; rfl
              have zf11 := Lib.frozen_of_heap HZV.out 11
              obtain ⟨WF, hWF, hhF, hbF, hoF⟩ := set12 V2 V1.heap.size 42 (.int .i64 0) (.int .i64 0) (.int .i64 0) (.int .i64 0) (.int .i64 0) (.int .i64 0) (.slice none 0 0) (.slice none 0 0) (.slice none 0 0) (.slice none 0 0) (.slice none 0 0) (.int .i64 0) (.int .i64 a) (.int .i64 b) (.int .i64 f) (.int .i64 g0) (.int .i64 mf) (.int .i64 mb) (.slice B p d) (.slice A l.length c) (.slice X'.A1 k' X'.c1) (.slice X'.A2 k' X'.c2) (.slice X'.A3 k' X'.c3) (.int .i64 st'.rd) HZV.out
              go_wp2
              have HXV := Lib.hid ((hoF w4.heap.size (fun e => by have h1 := lt_of_blk HX6.out; have h2 := HBK.out; omega)).trans HXV.out)
              have GXV := Lib.hid ((hbF.cell (p := a1.add i) (by have h1 := World.block_lt_of_cell? _ _ gx6; have h2 := HBK.out; omega)).trans GXV.out)
              clear z0 zf0 z1 zf1 z2 zf2 z3 zf3 z4 zf4 z5 zf5 z6 zf6 z7 zf7 z8 zf8 z9 zf9 z10 zf10 z11 zf11 hWF
              have s0 : WF.cell? ⟨w4.heap.size, 0, none⟩ = some (.int .i64 a) := by rw [Lib.cell_of_heap HXV.out]; rfl
              have s1 : WF.cell? ⟨w4.heap.size, 1, none⟩ = some (.int .i64 b) := by rw [Lib.cell_of_heap HXV.out]; rfl
              have s2 : WF.cell? ⟨w4.heap.size, 2, none⟩ = some (.int .i64 f) := by rw [Lib.cell_of_heap HXV.out]; rfl
              have s3 : WF.cell? ⟨w4.heap.size, 3, none⟩ = some (.int .i64 g0) := by rw [Lib.cell_of_heap HXV.out]; rfl
              have s4 : WF.cell? ⟨w4.heap.size, 4, none⟩ = some (.int .i64 mf) := by rw [Lib.cell_of_heap HXV.out]; rfl
              have s5 : WF.cell? ⟨w4.heap.size, 5, none⟩ = some (.int .i64 mb) := by rw [Lib.cell_of_heap HXV.out]; rfl
              have s6 : WF.cell? ⟨w4.heap.size, 6, none⟩ = some (.slice B p d) := by rw [Lib.cell_of_heap HXV.out]; rfl
              have s7 : WF.cell? ⟨w4.heap.size, 7, none⟩ = some (.slice A l.length c) := by rw [Lib.cell_of_heap HXV.out]; rfl
              have s8 : WF.cell? ⟨w4.heap.size, 8, none⟩ = some (.slice X.A1 k X.c1) := by rw [Lib.cell_of_heap HXV.out]; rfl
              have s9 : WF.cell? ⟨w4.heap.size, 9, none⟩ = some (.slice X.A2 k X.c2) := by rw [Lib.cell_of_heap HXV.out]; rfl
              have s10 : WF.cell? ⟨w4.heap.size, 10, none⟩ = some (.slice X.A3 k X.c3) := by rw [Lib.cell_of_heap HXV.out]; rfl
              have s11 : WF.cell? ⟨w4.heap.size, 11, none⟩ = some (.int .i64 st.rd) := by rw [Lib.cell_of_heap HXV.out]; rfl
              refine hK.out _ _ ⟨s0, s1, s2, s3, s4, s5, s6, s7, s8, s9, s10, s11, GXV.out⟩ (fun hHeld => ?_)
              clear hK K s0 s1 s2 s3 s4 s5 s6 s7 s8 s9 s10 s11
              (try simp only [Act.put, List.setIfInBounds_toArray, List.set_cons_zero, List.set_cons_succ])
              --TAKES narthex/narthexlaw24.FetchPlays:14 12 13
              refine wpAnyH_take (i := 12) (oi := ({ dst := some 15, op := Op.assign (Operand.tmp 75), type := 9, pos := "law.go:47", after := #[{ on := 8, ground := Ground.data }, { on := 11, ground := Ground.chain }, { on := 0, ground := Ground.phase }, { on := 1, ground := Ground.phase }, { on := 2, ground := Ground.phase }, { on := 3, ground := Ground.phase }, { on := 4, ground := Ground.phase }, { on := 5, ground := Ground.phase }, { on := 6, ground := Ground.phase }, { on := 7, ground := Ground.phase }, { on := 8, ground := Ground.phase }, { on := 9, ground := Ground.textOnly Departure.lateStores }, { on := 10, ground := Ground.phase }, { on := 11, ground := Ground.phase }], guard := none } : Oper)) (v := ?_) rfl (by kernel_rfl) (by kernel_rfl) (by kernel_rfl) (fun _ _ _ h => h) (Or.inl ⟨by rfl, ?_⟩) (by assumption) ?_
              rotate_left 1
              · intro w hSw; (try dsimp only at hSw); go_simp; try with_reducible rfl
              (try simp only [Act.put, List.setIfInBounds_toArray, List.set_cons_zero, List.set_cons_succ])
              refine wpAnyH_take (i := 13) (oi := ({ dst := some 16, op := Op.assign (Operand.tmp 76), type := 3, pos := "law.go:47", after := #[{ on := 9, ground := Ground.data }, { on := 12, ground := Ground.chain }, { on := 0, ground := Ground.phase }, { on := 1, ground := Ground.phase }, { on := 2, ground := Ground.phase }, { on := 3, ground := Ground.phase }, { on := 4, ground := Ground.phase }, { on := 5, ground := Ground.phase }, { on := 6, ground := Ground.phase }, { on := 7, ground := Ground.phase }, { on := 8, ground := Ground.phase }, { on := 9, ground := Ground.phase }, { on := 10, ground := Ground.phase }, { on := 11, ground := Ground.phase }, { on := 12, ground := Ground.phase }], guard := none } : Oper)) (v := ?_) rfl (by kernel_rfl) (by kernel_rfl) (by kernel_rfl) (fun _ _ _ h => h) (Or.inl ⟨by rfl, ?_⟩) (by assumption) ?_
              rotate_left 1
              · intro w hSw; (try dsimp only at hSw); go_simp; try with_reducible rfl
              (try simp only [Act.put, List.setIfInBounds_toArray, List.set_cons_zero, List.set_cons_succ])
              --END
              refine wpAnyH_done (by kernel_rfl) ?_ _
              clear hHeld
              go_wp2
              go_meet
              case rel =>
                exact ⟨V1.heap.size, X', k', rfl, rfl, rfl, HBV.out.trans (hbF.mono HBK.out), HRG.out.same HZV.out hoF, HFR.out, HBK.out, hhF⟩
            · go_simp
              obtain ⟨V1, hV2, hbv, hzv, hltv⟩ := rgBox V0 #[.int .i64 0, .int .i64 0, .int .i64 0, .int .i64 0, .int .i64 0, .int .i64 0, .slice none 0 0, .slice none 0 0, .slice none 0 0, .slice none 0 0, .slice none 0 0, .int .i64 0] 42
              rw [hV2]
              clear hV2
              have HXV := Lib.hid ((hbv.block _ (lt_of_blk HXV.out)).trans HXV.out)
              have GXV := Lib.hid ((hbv.cell (p := a1.add i) (World.block_lt_of_cell? _ _ GXV.out)).trans GXV.out)
              have HBK : Hid (w6.heap.size ≤ V0.heap.size) := Lib.hid HBV.out.size
              have HBV := Lib.hid (HBV.out.trans (hbv.mono HBV.out.size))
              have HZV := Lib.hid hzv
              clear hbv hzv hltv
              have s0 : V1.cell? ⟨w4.heap.size, 0, none⟩ = some (.int .i64 a) := by rw [Lib.cell_of_heap HXV.out]; rfl
              have s1 : V1.cell? ⟨w4.heap.size, 1, none⟩ = some (.int .i64 b) := by rw [Lib.cell_of_heap HXV.out]; rfl
              have s2 : V1.cell? ⟨w4.heap.size, 2, none⟩ = some (.int .i64 f) := by rw [Lib.cell_of_heap HXV.out]; rfl
              have s3 : V1.cell? ⟨w4.heap.size, 3, none⟩ = some (.int .i64 g0) := by rw [Lib.cell_of_heap HXV.out]; rfl
              have s4 : V1.cell? ⟨w4.heap.size, 4, none⟩ = some (.int .i64 mf) := by rw [Lib.cell_of_heap HXV.out]; rfl
              have s5 : V1.cell? ⟨w4.heap.size, 5, none⟩ = some (.int .i64 mb) := by rw [Lib.cell_of_heap HXV.out]; rfl
              have s6 : V1.cell? ⟨w4.heap.size, 6, none⟩ = some (.slice B p d) := by rw [Lib.cell_of_heap HXV.out]; rfl
              have s7 : V1.cell? ⟨w4.heap.size, 7, none⟩ = some (.slice A l.length c) := by rw [Lib.cell_of_heap HXV.out]; rfl
              have s8 : V1.cell? ⟨w4.heap.size, 8, none⟩ = some (.slice X.A1 k X.c1) := by rw [Lib.cell_of_heap HXV.out]; rfl
              have s9 : V1.cell? ⟨w4.heap.size, 9, none⟩ = some (.slice X.A2 k X.c2) := by rw [Lib.cell_of_heap HXV.out]; rfl
              have s10 : V1.cell? ⟨w4.heap.size, 10, none⟩ = some (.slice X.A3 k X.c3) := by rw [Lib.cell_of_heap HXV.out]; rfl
              have s11 : V1.cell? ⟨w4.heap.size, 11, none⟩ = some (.int .i64 st.rd) := by rw [Lib.cell_of_heap HXV.out]; rfl
              refine hK.out _ _ ⟨s0, s1, s2, s3, s4, s5, s6, s7, s8, s9, s10, s11, GXV.out⟩ (fun hHeld => ?_)
              clear hK K s0 s1 s2 s3 s4 s5 s6 s7 s8 s9 s10 s11
              (try simp only [Act.put, List.setIfInBounds_toArray, List.set_cons_zero, List.set_cons_succ])
              refine wpAnyH_ready (rs := [5]) (by kernel_rfl) (by simp) ?_
              refine AllReadyH.cons (o := _) rfl (fun K hK => ?_) AllReadyH.nil
              go_simp
              refine (CR.out V1 HBV.out).mono ?_
              rintro e V2 ⟨X', k', rfl, hrg, hbc, hfr⟩
              simp only [rgV]
              have HRG := Lib.hid hrg
              have HFR := Lib.hid (frLow hfr HBV.out.size)
              have HXV := Lib.hid ((hbc.block _ (lt_of_blk HXV.out)).trans HXV.out)
              have GXV := Lib.hid ((hbc.cell (p := a1.add i) (World.block_lt_of_cell? _ _ GXV.out)).trans GXV.out)
              have HBV0 := HBV
              have HBV := Lib.hid (HBV.out.trans (hbc.mono HBV.out.size))
              have HBC := Lib.hid hbc
              clear hrg hfr hbc
              have HZV := Lib.hid ((HBC.out.block _ (lt_of_blk HZV.out)).trans HZV.out)
              have s0 : V2.cell? ⟨w4.heap.size, 0, none⟩ = some (.int .i64 a) := by rw [Lib.cell_of_heap HXV.out]; rfl
              have s1 : V2.cell? ⟨w4.heap.size, 1, none⟩ = some (.int .i64 b) := by rw [Lib.cell_of_heap HXV.out]; rfl
              have s2 : V2.cell? ⟨w4.heap.size, 2, none⟩ = some (.int .i64 f) := by rw [Lib.cell_of_heap HXV.out]; rfl
              have s3 : V2.cell? ⟨w4.heap.size, 3, none⟩ = some (.int .i64 g0) := by rw [Lib.cell_of_heap HXV.out]; rfl
              have s4 : V2.cell? ⟨w4.heap.size, 4, none⟩ = some (.int .i64 mf) := by rw [Lib.cell_of_heap HXV.out]; rfl
              have s5 : V2.cell? ⟨w4.heap.size, 5, none⟩ = some (.int .i64 mb) := by rw [Lib.cell_of_heap HXV.out]; rfl
              have s6 : V2.cell? ⟨w4.heap.size, 6, none⟩ = some (.slice B p d) := by rw [Lib.cell_of_heap HXV.out]; rfl
              have s7 : V2.cell? ⟨w4.heap.size, 7, none⟩ = some (.slice A l.length c) := by rw [Lib.cell_of_heap HXV.out]; rfl
              have s8 : V2.cell? ⟨w4.heap.size, 8, none⟩ = some (.slice X.A1 k X.c1) := by rw [Lib.cell_of_heap HXV.out]; rfl
              have s9 : V2.cell? ⟨w4.heap.size, 9, none⟩ = some (.slice X.A2 k X.c2) := by rw [Lib.cell_of_heap HXV.out]; rfl
              have s10 : V2.cell? ⟨w4.heap.size, 10, none⟩ = some (.slice X.A3 k X.c3) := by rw [Lib.cell_of_heap HXV.out]; rfl
              have s11 : V2.cell? ⟨w4.heap.size, 11, none⟩ = some (.int .i64 st.rd) := by rw [Lib.cell_of_heap HXV.out]; rfl
              refine hK.out _ _ ⟨s0, s1, s2, s3, s4, s5, s6, s7, s8, s9, s10, s11, GXV.out⟩ (fun hHeld => ?_)
              clear hK K s0 s1 s2 s3 s4 s5 s6 s7 s8 s9 s10 s11
              (try simp only [Act.put, List.setIfInBounds_toArray, List.set_cons_zero, List.set_cons_succ])
              --TAKES narthex/narthexlaw24.FetchPlays:14 6..9
              refine wpAnyH_take (i := 6) (oi := ({ dst := some 67, op := Op.move (Operand.tmp 73), type := 43, pos := "law.go:47", after := #[{ on := 5, ground := Ground.data }], guard := none } : Oper)) (v := ?_) rfl (by kernel_rfl) (by kernel_rfl) (by kernel_rfl) (fun _ _ _ h => h) (Or.inl ⟨by rfl, ?_⟩) (by assumption) ?_
              rotate_left 1
              · intro w hSw; (try dsimp only at hSw); go_simp; try with_reducible rfl
              (try simp only [Act.put, List.setIfInBounds_toArray, List.set_cons_zero, List.set_cons_succ])
              refine wpAnyH_take (i := 7) (oi := ({ dst := some 74, op := Op.extract (Operand.tmp 67) 0, type := 42, pos := "law.go:47", after := #[{ on := 6, ground := Ground.data }], guard := none } : Oper)) (v := ?_) rfl (by kernel_rfl) (by kernel_rfl) (by kernel_rfl) (fun _ _ _ h => h) (Or.inl ⟨by rfl, ?_⟩) (by assumption) ?_
              rotate_left 1
              · intro w hSw; (try dsimp only at hSw); go_simp; try with_reducible rfl
              (try simp only [Act.put, List.setIfInBounds_toArray, List.set_cons_zero, List.set_cons_succ])
              refine wpAnyH_take (i := 8) (oi := ({ dst := some 75, op := Op.extract (Operand.tmp 67) 1, type := 9, pos := "law.go:47", after := #[{ on := 6, ground := Ground.data }, { on := 11, ground := Ground.gcOnly Departure.lateStores }], guard := none } : Oper)) (v := ?_) rfl (by kernel_rfl) (by kernel_rfl) (by kernel_rfl) (fun _ _ _ h => h) (Or.inl ⟨by rfl, ?_⟩) (by assumption) ?_
              rotate_left 1
              · intro w hSw; (try dsimp only at hSw); go_simp; try with_reducible rfl
              (try simp only [Act.put, List.setIfInBounds_toArray, List.set_cons_zero, List.set_cons_succ])
              refine wpAnyH_take (i := 9) (oi := ({ dst := some 76, op := Op.extract (Operand.tmp 67) 2, type := 3, pos := "law.go:47", after := #[{ on := 6, ground := Ground.data }, { on := 12, ground := Ground.gcOnly Departure.lateStores }], guard := none } : Oper)) (v := ?_) rfl (by kernel_rfl) (by kernel_rfl) (by kernel_rfl) (fun _ _ _ h => h) (Or.inl ⟨by rfl, ?_⟩) (by assumption) ?_
              rotate_left 1
              · intro w hSw; (try dsimp only at hSw); go_simp; try with_reducible rfl
              (try simp only [Act.put, List.setIfInBounds_toArray, List.set_cons_zero, List.set_cons_succ])
              --END
              refine wpAnyH_ready (rs := [11]) (by kernel_rfl) (by simp) ?_
              refine AllReadyH.cons (o := _) rfl (fun K hK => ?_) AllReadyH.nil
              have z0 : V2.cell? ⟨V0.heap.size, 0, none⟩ = some (.int .i64 0) := by rw [Lib.cell_of_heap HZV.out]; rfl
              have zf0 := Lib.frozen_of_heap HZV.out 0
              have z1 : V2.cell? ⟨V0.heap.size, 1, none⟩ = some (.int .i64 0) := by rw [Lib.cell_of_heap HZV.out]; rfl
              have zf1 := Lib.frozen_of_heap HZV.out 1
              have z2 : V2.cell? ⟨V0.heap.size, 2, none⟩ = some (.int .i64 0) := by rw [Lib.cell_of_heap HZV.out]; rfl
              have zf2 := Lib.frozen_of_heap HZV.out 2
              have z3 : V2.cell? ⟨V0.heap.size, 3, none⟩ = some (.int .i64 0) := by rw [Lib.cell_of_heap HZV.out]; rfl
              have zf3 := Lib.frozen_of_heap HZV.out 3
              have z4 : V2.cell? ⟨V0.heap.size, 4, none⟩ = some (.int .i64 0) := by rw [Lib.cell_of_heap HZV.out]; rfl
              have zf4 := Lib.frozen_of_heap HZV.out 4
              have z5 : V2.cell? ⟨V0.heap.size, 5, none⟩ = some (.int .i64 0) := by rw [Lib.cell_of_heap HZV.out]; rfl
              have zf5 := Lib.frozen_of_heap HZV.out 5
              have z6 : V2.cell? ⟨V0.heap.size, 6, none⟩ = some (.slice none 0 0) := by rw [Lib.cell_of_heap HZV.out]; rfl
              have zf6 := Lib.frozen_of_heap HZV.out 6
              have z7 : V2.cell? ⟨V0.heap.size, 7, none⟩ = some (.slice none 0 0) := by rw [Lib.cell_of_heap HZV.out]; rfl
              have zf7 := Lib.frozen_of_heap HZV.out 7
              have z8 : V2.cell? ⟨V0.heap.size, 8, none⟩ = some (.slice none 0 0) := by rw [Lib.cell_of_heap HZV.out]; rfl
              have zf8 := Lib.frozen_of_heap HZV.out 8
              have z9 : V2.cell? ⟨V0.heap.size, 9, none⟩ = some (.slice none 0 0) := by rw [Lib.cell_of_heap HZV.out]; rfl
              have zf9 := Lib.frozen_of_heap HZV.out 9
              have z10 : V2.cell? ⟨V0.heap.size, 10, none⟩ = some (.slice none 0 0) := by rw [Lib.cell_of_heap HZV.out]; rfl
              have zf10 := Lib.frozen_of_heap HZV.out 10
              have z11 : V2.cell? ⟨V0.heap.size, 11, none⟩ = some (.int .i64 0) := by rw [Lib.cell_of_heap HZV.out]; rfl
              have zf11 := Lib.frozen_of_heap HZV.out 11
              obtain ⟨WF, hWF, hhF, hbF, hoF⟩ := set12 V2 V0.heap.size 42 (.int .i64 0) (.int .i64 0) (.int .i64 0) (.int .i64 0) (.int .i64 0) (.int .i64 0) (.slice none 0 0) (.slice none 0 0) (.slice none 0 0) (.slice none 0 0) (.slice none 0 0) (.int .i64 0) (.int .i64 a) (.int .i64 b) (.int .i64 f) (.int .i64 g0) (.int .i64 mf) (.int .i64 mb) (.slice B p d) (.slice A l.length c) (.slice X'.A1 k' X'.c1) (.slice X'.A2 k' X'.c2) (.slice X'.A3 k' X'.c3) (.int .i64 st'.rd) HZV.out
              go_wp2
              have HXV := Lib.hid ((hoF w4.heap.size (fun e => by have h1 := lt_of_blk HX6.out; have h2 := HBK.out; omega)).trans HXV.out)
              have GXV := Lib.hid ((hbF.cell (p := a1.add i) (by have h1 := World.block_lt_of_cell? _ _ gx6; have h2 := HBK.out; omega)).trans GXV.out)
              clear z0 zf0 z1 zf1 z2 zf2 z3 zf3 z4 zf4 z5 zf5 z6 zf6 z7 zf7 z8 zf8 z9 zf9 z10 zf10 z11 zf11 hWF
              have s0 : WF.cell? ⟨w4.heap.size, 0, none⟩ = some (.int .i64 a) := by rw [Lib.cell_of_heap HXV.out]; rfl
              have s1 : WF.cell? ⟨w4.heap.size, 1, none⟩ = some (.int .i64 b) := by rw [Lib.cell_of_heap HXV.out]; rfl
              have s2 : WF.cell? ⟨w4.heap.size, 2, none⟩ = some (.int .i64 f) := by rw [Lib.cell_of_heap HXV.out]; rfl
              have s3 : WF.cell? ⟨w4.heap.size, 3, none⟩ = some (.int .i64 g0) := by rw [Lib.cell_of_heap HXV.out]; rfl
              have s4 : WF.cell? ⟨w4.heap.size, 4, none⟩ = some (.int .i64 mf) := by rw [Lib.cell_of_heap HXV.out]; rfl
              have s5 : WF.cell? ⟨w4.heap.size, 5, none⟩ = some (.int .i64 mb) := by rw [Lib.cell_of_heap HXV.out]; rfl
              have s6 : WF.cell? ⟨w4.heap.size, 6, none⟩ = some (.slice B p d) := by rw [Lib.cell_of_heap HXV.out]; rfl
              have s7 : WF.cell? ⟨w4.heap.size, 7, none⟩ = some (.slice A l.length c) := by rw [Lib.cell_of_heap HXV.out]; rfl
              have s8 : WF.cell? ⟨w4.heap.size, 8, none⟩ = some (.slice X.A1 k X.c1) := by rw [Lib.cell_of_heap HXV.out]; rfl
              have s9 : WF.cell? ⟨w4.heap.size, 9, none⟩ = some (.slice X.A2 k X.c2) := by rw [Lib.cell_of_heap HXV.out]; rfl
              have s10 : WF.cell? ⟨w4.heap.size, 10, none⟩ = some (.slice X.A3 k X.c3) := by rw [Lib.cell_of_heap HXV.out]; rfl
              have s11 : WF.cell? ⟨w4.heap.size, 11, none⟩ = some (.int .i64 st.rd) := by rw [Lib.cell_of_heap HXV.out]; rfl
              refine hK.out _ _ ⟨s0, s1, s2, s3, s4, s5, s6, s7, s8, s9, s10, s11, GXV.out⟩ (fun hHeld => ?_)
              clear hK K s0 s1 s2 s3 s4 s5 s6 s7 s8 s9 s10 s11
              (try simp only [Act.put, List.setIfInBounds_toArray, List.set_cons_zero, List.set_cons_succ])
              --TAKES narthex/narthexlaw24.FetchPlays:14 12 13
              refine wpAnyH_take (i := 12) (oi := ({ dst := some 15, op := Op.assign (Operand.tmp 75), type := 9, pos := "law.go:47", after := #[{ on := 8, ground := Ground.data }, { on := 11, ground := Ground.chain }, { on := 0, ground := Ground.phase }, { on := 1, ground := Ground.phase }, { on := 2, ground := Ground.phase }, { on := 3, ground := Ground.phase }, { on := 4, ground := Ground.phase }, { on := 5, ground := Ground.phase }, { on := 6, ground := Ground.phase }, { on := 7, ground := Ground.phase }, { on := 8, ground := Ground.phase }, { on := 9, ground := Ground.textOnly Departure.lateStores }, { on := 10, ground := Ground.phase }, { on := 11, ground := Ground.phase }], guard := none } : Oper)) (v := ?_) rfl (by kernel_rfl) (by kernel_rfl) (by kernel_rfl) (fun _ _ _ h => h) (Or.inl ⟨by rfl, ?_⟩) (by assumption) ?_
              rotate_left 1
              · intro w hSw; (try dsimp only at hSw); go_simp; try with_reducible rfl
              (try simp only [Act.put, List.setIfInBounds_toArray, List.set_cons_zero, List.set_cons_succ])
              refine wpAnyH_take (i := 13) (oi := ({ dst := some 16, op := Op.assign (Operand.tmp 76), type := 3, pos := "law.go:47", after := #[{ on := 9, ground := Ground.data }, { on := 12, ground := Ground.chain }, { on := 0, ground := Ground.phase }, { on := 1, ground := Ground.phase }, { on := 2, ground := Ground.phase }, { on := 3, ground := Ground.phase }, { on := 4, ground := Ground.phase }, { on := 5, ground := Ground.phase }, { on := 6, ground := Ground.phase }, { on := 7, ground := Ground.phase }, { on := 8, ground := Ground.phase }, { on := 9, ground := Ground.phase }, { on := 10, ground := Ground.phase }, { on := 11, ground := Ground.phase }, { on := 12, ground := Ground.phase }], guard := none } : Oper)) (v := ?_) rfl (by kernel_rfl) (by kernel_rfl) (by kernel_rfl) (fun _ _ _ h => h) (Or.inl ⟨by rfl, ?_⟩) (by assumption) ?_
              rotate_left 1
              · intro w hSw; (try dsimp only at hSw); go_simp; try with_reducible rfl
              (try simp only [Act.put, List.setIfInBounds_toArray, List.set_cons_zero, List.set_cons_succ])
              --END
              refine wpAnyH_done (by kernel_rfl) ?_ _
              clear hHeld
              go_wp2
              go_meet
              case rel =>
                exact ⟨V0.heap.size, X', k', rfl, rfl, rfl, HBV.out.trans (hbF.mono HBK.out), HRG.out.same HZV.out hoF, HFR.out, HBK.out, hhF⟩
          case rest =>
            obtain ⟨bk, X', k', rfl, rfl, rfl, hb6, hrg, hfr, hbk, hhk⟩ := hcut
            have HBC := Lib.hid hb6
            have RGC := Lib.hid hrg
            have NRC := Lib.hid (NR6.out.next6 HG6.out.guard hfr)
            have HXC := Lib.hid ((hb6.block _ (lt_of_blk HX6.out)).trans HX6.out)
            have HKC := Lib.hid hhk
            have GOC := Lib.hid (HG6.out.below hb6)
            have BYC := Lib.hid (BOwn.below BY6.out hb6)
            have KEC := Lib.hid (HB6.out.trans (hb6.mono HB6.out.size))
            have hn1 : ¬ bk = w4.heap.size := fun e => by have h1 := lt_of_blk HX6.out; omega
            have hn2 : ¬ w4.heap.size = bk := fun e => by have h1 := lt_of_blk HX6.out; omega
            clear hb6 hrg hfr hbk hhk CR RG6 NR6 HX6 HG6 BY6 HB6 gx6
            have y0 : wc.cell? ⟨bk, 0, none⟩ = some (.int .i64 a) := by rw [Lib.cell_of_heap HKC.out]; rfl
            have y1 : wc.cell? ⟨bk, 1, none⟩ = some (.int .i64 b) := by rw [Lib.cell_of_heap HKC.out]; rfl
            have y2 : wc.cell? ⟨bk, 2, none⟩ = some (.int .i64 f) := by rw [Lib.cell_of_heap HKC.out]; rfl
            have y3 : wc.cell? ⟨bk, 3, none⟩ = some (.int .i64 g0) := by rw [Lib.cell_of_heap HKC.out]; rfl
            have y4 : wc.cell? ⟨bk, 4, none⟩ = some (.int .i64 mf) := by rw [Lib.cell_of_heap HKC.out]; rfl
            have y5 : wc.cell? ⟨bk, 5, none⟩ = some (.int .i64 mb) := by rw [Lib.cell_of_heap HKC.out]; rfl
            have y6 : wc.cell? ⟨bk, 6, none⟩ = some (.slice B p d) := by rw [Lib.cell_of_heap HKC.out]; rfl
            have y7 : wc.cell? ⟨bk, 7, none⟩ = some (.slice A l.length c) := by rw [Lib.cell_of_heap HKC.out]; rfl
            have y8 : wc.cell? ⟨bk, 8, none⟩ = some (.slice X'.A1 k' X'.c1) := by rw [Lib.cell_of_heap HKC.out]; rfl
            have y9 : wc.cell? ⟨bk, 9, none⟩ = some (.slice X'.A2 k' X'.c2) := by rw [Lib.cell_of_heap HKC.out]; rfl
            have y10 : wc.cell? ⟨bk, 10, none⟩ = some (.slice X'.A3 k' X'.c3) := by rw [Lib.cell_of_heap HKC.out]; rfl
            have y11 : wc.cell? ⟨bk, 11, none⟩ = some (.int .i64 st'.rd) := by rw [Lib.cell_of_heap HKC.out]; rfl
            have x0 : wc.cell? ⟨w4.heap.size, 0, none⟩ = some (.int .i64 a) := by rw [Lib.cell_of_heap HXC.out]; rfl
            have xf0 := Lib.frozen_of_heap HXC.out 0
            have x1 : wc.cell? ⟨w4.heap.size, 1, none⟩ = some (.int .i64 b) := by rw [Lib.cell_of_heap HXC.out]; rfl
            have xf1 := Lib.frozen_of_heap HXC.out 1
            have x2 : wc.cell? ⟨w4.heap.size, 2, none⟩ = some (.int .i64 f) := by rw [Lib.cell_of_heap HXC.out]; rfl
            have xf2 := Lib.frozen_of_heap HXC.out 2
            have x3 : wc.cell? ⟨w4.heap.size, 3, none⟩ = some (.int .i64 g0) := by rw [Lib.cell_of_heap HXC.out]; rfl
            have xf3 := Lib.frozen_of_heap HXC.out 3
            have x4 : wc.cell? ⟨w4.heap.size, 4, none⟩ = some (.int .i64 mf) := by rw [Lib.cell_of_heap HXC.out]; rfl
            have xf4 := Lib.frozen_of_heap HXC.out 4
            have x5 : wc.cell? ⟨w4.heap.size, 5, none⟩ = some (.int .i64 mb) := by rw [Lib.cell_of_heap HXC.out]; rfl
            have xf5 := Lib.frozen_of_heap HXC.out 5
            have x6 : wc.cell? ⟨w4.heap.size, 6, none⟩ = some (.slice B p d) := by rw [Lib.cell_of_heap HXC.out]; rfl
            have xf6 := Lib.frozen_of_heap HXC.out 6
            have x7 : wc.cell? ⟨w4.heap.size, 7, none⟩ = some (.slice A l.length c) := by rw [Lib.cell_of_heap HXC.out]; rfl
            have xf7 := Lib.frozen_of_heap HXC.out 7
            have x8 : wc.cell? ⟨w4.heap.size, 8, none⟩ = some (.slice X.A1 k X.c1) := by rw [Lib.cell_of_heap HXC.out]; rfl
            have xf8 := Lib.frozen_of_heap HXC.out 8
            have x9 : wc.cell? ⟨w4.heap.size, 9, none⟩ = some (.slice X.A2 k X.c2) := by rw [Lib.cell_of_heap HXC.out]; rfl
            have xf9 := Lib.frozen_of_heap HXC.out 9
            have x10 : wc.cell? ⟨w4.heap.size, 10, none⟩ = some (.slice X.A3 k X.c3) := by rw [Lib.cell_of_heap HXC.out]; rfl
            have xf10 := Lib.frozen_of_heap HXC.out 10
            have x11 : wc.cell? ⟨w4.heap.size, 11, none⟩ = some (.int .i64 st.rd) := by rw [Lib.cell_of_heap HXC.out]; rfl
            have xf11 := Lib.frozen_of_heap HXC.out 11
            go_upto_region 16 with (fail)
            obtain ⟨WF, hWF, hhF, hbF, hoF⟩ := set12 wc w4.heap.size 42 (.int .i64 a) (.int .i64 b) (.int .i64 f) (.int .i64 g0) (.int .i64 mf) (.int .i64 mb) (.slice B p d) (.slice A l.length c) (.slice X.A1 k X.c1) (.slice X.A2 k X.c2) (.slice X.A3 k X.c3) (.int .i64 st.rd) (.int .i64 a) (.int .i64 b) (.int .i64 f) (.int .i64 g0) (.int .i64 mf) (.int .i64 mb) (.slice B p d) (.slice A l.length c) (.slice X'.A1 k' X'.c1) (.slice X'.A2 k' X'.c2) (.slice X'.A3 k' X'.c3) (.int .i64 st'.rd) HXC.out
            rw [hWF]
            clear hWF y0 x0 xf0 y1 x1 xf1 y2 x2 xf2 y3 x3 xf3 y4 x4 xf4 y5 x5 xf5 y6 x6 xf6 y7 x7 xf7 y8 x8 xf8 y9 x9 xf9 y10 x10 xf10 y11 x11 xf11
            have GOF := Lib.hid (GOC.out.aside HXC.out hoF)
            have RGF := Lib.hid (RGC.out.same HXC.out hoF)
            have BYF := Lib.hid (BYC.out.aside HXC.out hbF hoF)
            have HXF := Lib.hid hhF
            have KEF := Lib.hid (KEC.out.trans (hbF.mono HW14.out))
            have HCF := Lib.hid (HC1.out.below KEF.out HC1.out.1)
            clear hhF hbF hoF GOC RGC BYC HXC KEC HKC HBC hn1 hn2
            have HTL : Hid (st'.tr.length ≤ 1048576) := Lib.hid (by have h : st'.tr.length ≤ i + 1 := STN.out; omega)
            have e1 : s1'.ts = st'.tr := congrArg FS.tr GOF.out.hst
            have e3 : s1'.rd = st'.rd := congrArg FS.rd GOF.out.hst
            obtain ⟨lfv, e5⟩ : ∃ lfv, s1'.lf = lfv := ⟨_, rfl⟩
            have e6 : lfv + st'.rd = mb := by rw [← e5, ← e3]; exact GOF.out.sum
            have E1 := fun V (hb : Below WF.heap.size WF V) => trace_any w1.heap.size g s1' V (GOF.out.below hb).guard hb2 (by rw [e1]; exact HTL.out)
            have E3 := fun V (hb : Below WF.heap.size WF V) => read_any w1.heap.size g s1' V (GOF.out.below hb).guard hb2
            have E4 := fun V (hb : Below WF.heap.size WF V) => left_any w1.heap.size g s1' V (GOF.out.below hb).guard hb2
            rw [e1] at E1
            rw [e3] at E3
            rw [e5] at E4
            have E1 := Lib.hid E1
            have E3 := Lib.hid E3
            have E4 := Lib.hid E4
            have k3 : 0 ≤ st'.rd := GOF.out.ok.rd0
            have k2 : st'.rd ≤ mb := GOF.out.ok.rdm
            have k4 := MB.out.2.2
            have e7 : mb - st'.rd = lfv := by omega
            have e8 : IntKind.i64.wrap lfv = lfv := IntWalk.i64_in _ (by omega)
            clear e1 e3 e5 e6
            have SK : Hid (∀ V, Below WF.heap.size WF V → BytesAt V R1 n1 da ∧ V.cell? ⟨w4.heap.size, 8, none⟩ = some (.slice X'.A1 k' X'.c1) ∧ V.cell? ⟨w4.heap.size, 11, none⟩ = some (.int .i64 st'.rd) ∧ V.cell? ⟨w.heap.size, 5, none⟩ = some (.int .i64 mb)) := Lib.hid (fun V hb => ⟨BYF.out.1.below hb, by rw [Lib.cell_of_heap ((hb.block _ (lt_of_blk HXF.out)).trans HXF.out)]; rfl, by rw [Lib.cell_of_heap ((hb.block _ (lt_of_blk HXF.out)).trans HXF.out)]; rfl, (HCF.out.below hb HCF.out.1).2.2.2.2.2.2.1⟩)
            have HBV := Lib.hid (below_drewF WF.heap.size WF)
            refine wp_region_held_drew (S := fun w' => BytesAt w' R1 n1 da ∧ w'.cell? ⟨w4.heap.size, 8, none⟩ = some (.slice X'.A1 k' X'.c1) ∧ w'.cell? ⟨w4.heap.size, 11, none⟩ = some (.int .i64 st'.rd) ∧ w'.cell? ⟨w.heap.size, 5, none⟩ = some (.int .i64 mb)) (by kernel_rfl) (SK.out _ HBV.out) (fun hHeld => ?_)
            generalize WF.drew = V0 at *
            --TAKES narthex/narthexlaw24.FetchPlays:16 0
            refine wpAnyH_take (i := 0) (oi := ({ dst := some 78, op := Op.move (Operand.tmp 12), type := 34, pos := "law.go:49", after := #[], guard := none } : Oper)) (v := ?_) rfl (by kernel_rfl) (by kernel_rfl) (by kernel_rfl) (fun _ _ _ h => h) (Or.inl ⟨by rfl, ?_⟩) (by assumption) ?_
            rotate_left 1
            · intro w hSw; (try dsimp only at hSw); go_simp; try with_reducible rfl
            (try simp only [Act.put, List.setIfInBounds_toArray, List.set_cons_zero, List.set_cons_succ])
            --END
            --CONV
            --TAKES narthex/narthexlaw24.FetchPlays:16 1
            refine wpAnyH_take (i := 1) (oi := ({ dst := some 79, op := Op.convert 34 9 (Operand.tmp 78), type := 9, pos := "law.go:49", after := #[{ on := 0, ground := Ground.data }], guard := none } : Oper)) (v := ?_) rfl (by kernel_rfl) (by kernel_rfl) (by kernel_rfl) (fun _ _ _ h => h) (Or.inl ⟨by rfl, ?_⟩) (by assumption) ?_
            rotate_left 1
            · intro w hSw; (try dsimp only at hSw); have k1 := convB w R1 n1 c1' da hSw.1; go_simp; try with_reducible rfl
            (try simp only [Act.put, List.setIfInBounds_toArray, List.set_cons_zero, List.set_cons_succ])
            --END
            --TAKES narthex/narthexlaw24.FetchPlays:16 2..10 12 13
            refine wpAnyH_take (i := 2) (oi := ({ dst := some 80, op := Op.move (Operand.tmp 15), type := 9, pos := "law.go:49", after := #[], guard := none } : Oper)) (v := ?_) rfl (by kernel_rfl) (by kernel_rfl) (by kernel_rfl) (fun _ _ _ h => h) (Or.inl ⟨by rfl, ?_⟩) (by assumption) ?_
            rotate_left 1
            · intro w hSw; (try dsimp only at hSw); go_simp; try with_reducible rfl
            (try simp only [Act.put, List.setIfInBounds_toArray, List.set_cons_zero, List.set_cons_succ])
            refine wpAnyH_take (i := 3) (oi := ({ dst := some 81, op := Op.binOp BinOp.neq 9 (Operand.tmp 79) (Operand.tmp 80) 9, type := 4, pos := "law.go:49", after := #[{ on := 1, ground := Ground.data }, { on := 2, ground := Ground.data }], guard := none } : Oper)) (v := ?_) rfl (by kernel_rfl) (by kernel_rfl) (by kernel_rfl) (fun _ _ _ h => h) (Or.inl ⟨by rfl, ?_⟩) (by assumption) ?_
            rotate_left 1
            · intro w hSw; (try dsimp only at hSw); go_simp; try with_reducible rfl
            (try simp only [Act.put, List.setIfInBounds_toArray, List.set_cons_zero, List.set_cons_succ])
            refine wpAnyH_take (i := 4) (oi := ({ dst := some 82, op := Op.move (Operand.tmp 81), type := 4, pos := "law.go:49", after := #[{ on := 3, ground := Ground.data }], guard := none } : Oper)) (v := ?_) rfl (by kernel_rfl) (by kernel_rfl) (by kernel_rfl) (fun _ _ _ h => h) (Or.inl ⟨by rfl, ?_⟩) (by assumption) ?_
            rotate_left 1
            · intro w hSw; (try dsimp only at hSw); go_simp; try with_reducible rfl
            (try simp only [Act.put, List.setIfInBounds_toArray, List.set_cons_zero, List.set_cons_succ])
            refine wpAnyH_take (i := 5) (oi := ({ dst := some 83, op := Op.move (Operand.tmp 13), type := 30, pos := "law.go:49", after := #[{ on := 4, ground := Ground.guard }], guard := some (4, false) } : Oper)) (v := ?_) rfl (by kernel_rfl) (by kernel_rfl) (by kernel_rfl) (fun _ _ _ h => h) (Or.inl ⟨by rfl, ?_⟩) (by assumption) ?_
            rotate_left 1
            · intro w hSw; (try dsimp only at hSw); go_simp; try with_reducible rfl
            (try simp only [Act.put, List.setIfInBounds_toArray, List.set_cons_zero, List.set_cons_succ])
            refine wpAnyH_take (i := 6) (oi := ({ dst := some 84, op := Op.move (Operand.tmp 16), type := 3, pos := "law.go:49", after := #[{ on := 4, ground := Ground.guard }], guard := some (4, false) } : Oper)) (v := ?_) rfl (by kernel_rfl) (by kernel_rfl) (by kernel_rfl) (fun _ _ _ h => h) (Or.inl ⟨by rfl, ?_⟩) (by assumption) ?_
            rotate_left 1
            · intro w hSw; (try dsimp only at hSw); go_simp; try with_reducible rfl
            (try simp only [Act.put, List.setIfInBounds_toArray, List.set_cons_zero, List.set_cons_succ])
            refine wpAnyH_take (i := 7) (oi := ({ dst := some 85, op := Op.binOp BinOp.neq 3 (Operand.tmp 83) (Operand.tmp 84) 3, type := 4, pos := "law.go:49", after := #[{ on := 5, ground := Ground.data }, { on := 6, ground := Ground.data }, { on := 4, ground := Ground.guard }], guard := some (4, false) } : Oper)) (v := ?_) rfl (by kernel_rfl) (by kernel_rfl) (by kernel_rfl) (fun _ _ _ h => h) (Or.inl ⟨by rfl, ?_⟩) (by assumption) ?_
            rotate_left 1
            · intro w hSw; (try dsimp only at hSw); go_simp; try with_reducible rfl
            (try simp only [Act.put, List.setIfInBounds_toArray, List.set_cons_zero, List.set_cons_succ])
            refine wpAnyH_take (i := 8) (oi := ({ dst := some 86, op := Op.pick (Operand.tmp 82) (Operand.const (Value.bool true)) (Operand.tmp 85), type := 4, pos := "law.go:49", after := #[{ on := 4, ground := Ground.data }, { on := 7, ground := Ground.data }], guard := none } : Oper)) (v := ?_) rfl (by kernel_rfl) (by kernel_rfl) (by kernel_rfl) (fun _ _ _ h => h) (Or.inl ⟨by rfl, ?_⟩) (by assumption) ?_
            rotate_left 1
            · intro w hSw; (try dsimp only at hSw); go_simp; try with_reducible rfl
            (try simp only [Act.put, List.setIfInBounds_toArray, List.set_cons_zero, List.set_cons_succ])
            refine wpAnyH_take (i := 9) (oi := ({ dst := some 87, op := Op.move (Operand.tmp 86), type := 4, pos := "law.go:49", after := #[{ on := 8, ground := Ground.data }, { on := 4, ground := Ground.chain }], guard := none } : Oper)) (v := ?_) rfl (by kernel_rfl) (by kernel_rfl) (by kernel_rfl) (fun _ _ _ h => h) (Or.inl ⟨by rfl, ?_⟩) (by assumption) ?_
            rotate_left 1
            · intro w hSw; (try dsimp only at hSw); go_simp; try with_reducible rfl
            (try simp only [Act.put, List.setIfInBounds_toArray, List.set_cons_zero, List.set_cons_succ])
            refine wpAnyH_take (i := 10) (oi := ({ dst := some 88, op := Op.move (Operand.tmp 7), type := 29, pos := "law.go:49", after := #[{ on := 9, ground := Ground.guard }], guard := some (9, false) } : Oper)) (v := ?_) rfl (by kernel_rfl) (by kernel_rfl) (by kernel_rfl) (fun _ _ _ h => h) (Or.inl ⟨by rfl, ?_⟩) (by assumption) ?_
            rotate_left 1
            · intro w hSw; (try dsimp only at hSw); go_simp; try with_reducible rfl
            (try simp only [Act.put, List.setIfInBounds_toArray, List.set_cons_zero, List.set_cons_succ])
            refine wpAnyH_take (i := 12) (oi := ({ dst := some 90, op := Op.fieldAddr 42 (Operand.tmp 10) 2, type := 0, pos := "law.go:49", after := #[{ on := 9, ground := Ground.guard }], guard := some (9, false) } : Oper)) (v := ?_) rfl (by kernel_rfl) (by kernel_rfl) (by kernel_rfl) (fun _ _ _ h => h) (Or.inl ⟨by rfl, ?_⟩) (by assumption) ?_
            rotate_left 1
            · intro w hSw; (try dsimp only at hSw); go_simp; try with_reducible rfl
            (try simp only [Act.put, List.setIfInBounds_toArray, List.set_cons_zero, List.set_cons_succ])
            refine wpAnyH_take (i := 13) (oi := ({ dst := some 91, op := Op.load 22 (Operand.tmp 90), type := 22, pos := "law.go:49", after := #[{ on := 12, ground := Ground.data }, { on := 9, ground := Ground.guard }], guard := some (9, false) } : Oper)) (v := ?_) rfl (by kernel_rfl) (by kernel_rfl) (by kernel_rfl) (fun _ _ _ h => h) (Or.inl ⟨by rfl, ?_⟩) (by assumption) ?_
            rotate_left 1
            · intro w hSw; (try dsimp only at hSw); go_simp; try with_reducible rfl
            (try simp only [Act.put, List.setIfInBounds_toArray, List.set_cons_zero, List.set_cons_succ])
            --END
            refine wpAnyH_ready (rs := [11]) (by kernel_rfl) (by simp) ?_
            refine AllReadyH.cons (o := _) rfl (fun K hK => ?_) AllReadyH.nil
            go_simp
            refine (E1.out V0 HBV.out).mono ?_
            rintro e V1 ⟨A9, c9, rfl, hown9, hb9⟩
            have HBV := Lib.hid (HBV.out.trans (hb9.mono HBV.out.size))
            have T9 := Lib.hid (TsAt.of_own hown9)
            clear hown9 hb9
            refine hK.out _ _ (SK.out V1 HBV.out) (fun hHeld => ?_)
            clear hK K
            (try simp only [Act.put, List.setIfInBounds_toArray, List.set_cons_zero, List.set_cons_succ])
            have TX := textsT_any A9 st'.tr.length c9 st'.tr X'.A1 k' X'.c1 st'.tr V1 T9.out ((RGF.out.below HBV.out).ts) (Nat.le_trans HTL.out (by decide))
            rw [show decide (st'.tr = st'.tr) = true from decide_eq_true rfl] at TX
            have TX := Lib.hid TX
            refine wpAnyH_ready (rs := [14]) (by kernel_rfl) (by simp) ?_
            refine AllReadyH.cons (o := _) rfl (fun K hK => ?_) AllReadyH.nil
            go_simp
            refine TX.out.mono ?_
            rintro e V2 ⟨rfl, dd, hw2⟩
            have HBV : Hid (Below WF.heap.size WF V2) := Lib.hid (by rw [hw2]; exact HBV.out.trans ((below_drawnF V1.heap.size V1 dd).mono HBV.out.size))
            clear hw2 TX T9
            refine hK.out _ _ (SK.out V2 HBV.out) (fun hHeld => ?_)
            clear hK K
            (try simp only [Act.put, List.setIfInBounds_toArray, List.set_cons_zero, List.set_cons_succ])
            --TAKES narthex/narthexlaw24.FetchPlays:16 15..18 20 21
            refine wpAnyH_take (i := 15) (oi := ({ dst := some 93, op := Op.unOp UnOp.not 4 (Operand.tmp 92), type := 4, pos := "law.go:49", after := #[{ on := 14, ground := Ground.data }, { on := 9, ground := Ground.guard }], guard := some (9, false) } : Oper)) (v := ?_) rfl (by kernel_rfl) (by kernel_rfl) (by kernel_rfl) (fun _ _ _ h => h) (Or.inl ⟨by rfl, ?_⟩) (by assumption) ?_
            rotate_left 1
            · intro w hSw; (try dsimp only at hSw); go_simp; try with_reducible rfl
            (try simp only [Act.put, List.setIfInBounds_toArray, List.set_cons_zero, List.set_cons_succ])
            refine wpAnyH_take (i := 16) (oi := ({ dst := some 94, op := Op.pick (Operand.tmp 87) (Operand.const (Value.bool true)) (Operand.tmp 93), type := 4, pos := "law.go:49", after := #[{ on := 9, ground := Ground.data }, { on := 15, ground := Ground.data }], guard := none } : Oper)) (v := ?_) rfl (by kernel_rfl) (by kernel_rfl) (by kernel_rfl) (fun _ _ _ h => h) (Or.inl ⟨by rfl, ?_⟩) (by assumption) ?_
            rotate_left 1
            · intro w hSw; (try dsimp only at hSw); go_simp; try with_reducible rfl
            (try simp only [Act.put, List.setIfInBounds_toArray, List.set_cons_zero, List.set_cons_succ])
            refine wpAnyH_take (i := 17) (oi := ({ dst := some 95, op := Op.move (Operand.tmp 94), type := 4, pos := "law.go:49", after := #[{ on := 16, ground := Ground.data }, { on := 14, ground := Ground.chain }], guard := none } : Oper)) (v := ?_) rfl (by kernel_rfl) (by kernel_rfl) (by kernel_rfl) (fun _ _ _ h => h) (Or.inl ⟨by rfl, ?_⟩) (by assumption) ?_
            rotate_left 1
            · intro w hSw; (try dsimp only at hSw); go_simp; try with_reducible rfl
            (try simp only [Act.put, List.setIfInBounds_toArray, List.set_cons_zero, List.set_cons_succ])
            refine wpAnyH_take (i := 18) (oi := ({ dst := some 96, op := Op.move (Operand.tmp 7), type := 29, pos := "law.go:49", after := #[{ on := 17, ground := Ground.guard }], guard := some (17, false) } : Oper)) (v := ?_) rfl (by kernel_rfl) (by kernel_rfl) (by kernel_rfl) (fun _ _ _ h => h) (Or.inl ⟨by rfl, ?_⟩) (by assumption) ?_
            rotate_left 1
            · intro w hSw; (try dsimp only at hSw); go_simp; try with_reducible rfl
            (try simp only [Act.put, List.setIfInBounds_toArray, List.set_cons_zero, List.set_cons_succ])
            refine wpAnyH_take (i := 20) (oi := ({ dst := some 98, op := Op.fieldAddr 42 (Operand.tmp 10) 5, type := 0, pos := "law.go:49", after := #[{ on := 17, ground := Ground.guard }], guard := some (17, false) } : Oper)) (v := ?_) rfl (by kernel_rfl) (by kernel_rfl) (by kernel_rfl) (fun _ _ _ h => h) (Or.inl ⟨by rfl, ?_⟩) (by assumption) ?_
            rotate_left 1
            · intro w hSw; (try dsimp only at hSw); go_simp; try with_reducible rfl
            (try simp only [Act.put, List.setIfInBounds_toArray, List.set_cons_zero, List.set_cons_succ])
            refine wpAnyH_take (i := 21) (oi := ({ dst := some 99, op := Op.load 3 (Operand.tmp 98), type := 3, pos := "law.go:49", after := #[{ on := 20, ground := Ground.data }, { on := 17, ground := Ground.guard }], guard := some (17, false) } : Oper)) (v := ?_) rfl (by kernel_rfl) (by kernel_rfl) (by kernel_rfl) (fun _ _ _ h => h) (Or.inl ⟨by rfl, ?_⟩) (by assumption) ?_
            rotate_left 1
            · intro w hSw; (try dsimp only at hSw); go_simp; try with_reducible rfl
            (try simp only [Act.put, List.setIfInBounds_toArray, List.set_cons_zero, List.set_cons_succ])
            --END
            refine wpAnyH_ready (rs := [19]) (by kernel_rfl) (by simp) ?_
            refine AllReadyH.cons (o := _) rfl (fun K hK => ?_) AllReadyH.nil
            go_simp
            refine (E3.out V2 HBV.out).mono ?_
            rintro e V3 ⟨rfl, rfl⟩
            refine hK.out _ _ (SK.out _ HBV.out) (fun hHeld => ?_)
            clear hK K
            (try simp only [Act.put, List.setIfInBounds_toArray, List.set_cons_zero, List.set_cons_succ])
            --TAKES narthex/narthexlaw24.FetchPlays:16 22..25 27..31
            refine wpAnyH_take (i := 22) (oi := ({ dst := some 100, op := Op.binOp BinOp.neq 3 (Operand.tmp 97) (Operand.tmp 99) 3, type := 4, pos := "law.go:49", after := #[{ on := 19, ground := Ground.data }, { on := 21, ground := Ground.data }, { on := 17, ground := Ground.guard }], guard := some (17, false) } : Oper)) (v := ?_) rfl (by kernel_rfl) (by kernel_rfl) (by kernel_rfl) (fun _ _ _ h => h) (Or.inl ⟨by rfl, ?_⟩) (by assumption) ?_
            rotate_left 1
            · intro w hSw; (try dsimp only at hSw); go_simp; try with_reducible rfl
            (try simp only [Act.put, List.setIfInBounds_toArray, List.set_cons_zero, List.set_cons_succ])
            refine wpAnyH_take (i := 23) (oi := ({ dst := some 101, op := Op.pick (Operand.tmp 95) (Operand.const (Value.bool true)) (Operand.tmp 100), type := 4, pos := "law.go:49", after := #[{ on := 17, ground := Ground.data }, { on := 22, ground := Ground.data }], guard := none } : Oper)) (v := ?_) rfl (by kernel_rfl) (by kernel_rfl) (by kernel_rfl) (fun _ _ _ h => h) (Or.inl ⟨by rfl, ?_⟩) (by assumption) ?_
            rotate_left 1
            · intro w hSw; (try dsimp only at hSw); go_simp; try with_reducible rfl
            (try simp only [Act.put, List.setIfInBounds_toArray, List.set_cons_zero, List.set_cons_succ])
            refine wpAnyH_take (i := 24) (oi := ({ dst := some 102, op := Op.move (Operand.tmp 101), type := 4, pos := "law.go:49", after := #[{ on := 23, ground := Ground.data }, { on := 19, ground := Ground.chain }], guard := none } : Oper)) (v := ?_) rfl (by kernel_rfl) (by kernel_rfl) (by kernel_rfl) (fun _ _ _ h => h) (Or.inl ⟨by rfl, ?_⟩) (by assumption) ?_
            rotate_left 1
            · intro w hSw; (try dsimp only at hSw); go_simp; try with_reducible rfl
            (try simp only [Act.put, List.setIfInBounds_toArray, List.set_cons_zero, List.set_cons_succ])
            refine wpAnyH_take (i := 25) (oi := ({ dst := some 103, op := Op.move (Operand.tmp 7), type := 29, pos := "law.go:49", after := #[{ on := 24, ground := Ground.guard }], guard := some (24, false) } : Oper)) (v := ?_) rfl (by kernel_rfl) (by kernel_rfl) (by kernel_rfl) (fun _ _ _ h => h) (Or.inl ⟨by rfl, ?_⟩) (by assumption) ?_
            rotate_left 1
            · intro w hSw; (try dsimp only at hSw); go_simp; try with_reducible rfl
            (try simp only [Act.put, List.setIfInBounds_toArray, List.set_cons_zero, List.set_cons_succ])
            refine wpAnyH_take (i := 27) (oi := ({ dst := some 105, op := Op.fieldAddr 24 (Operand.tmp 3) 5, type := 0, pos := "law.go:49", after := #[{ on := 24, ground := Ground.guard }], guard := some (24, false) } : Oper)) (v := ?_) rfl (by kernel_rfl) (by kernel_rfl) (by kernel_rfl) (fun _ _ _ h => h) (Or.inl ⟨by rfl, ?_⟩) (by assumption) ?_
            rotate_left 1
            · intro w hSw; (try dsimp only at hSw); go_simp; try with_reducible rfl
            (try simp only [Act.put, List.setIfInBounds_toArray, List.set_cons_zero, List.set_cons_succ])
            refine wpAnyH_take (i := 28) (oi := ({ dst := some 106, op := Op.load 3 (Operand.tmp 105), type := 3, pos := "law.go:49", after := #[{ on := 27, ground := Ground.data }, { on := 24, ground := Ground.guard }], guard := some (24, false) } : Oper)) (v := ?_) rfl (by kernel_rfl) (by kernel_rfl) (by kernel_rfl) (fun _ _ _ h => h) (Or.inl ⟨by rfl, ?_⟩) (by assumption) ?_
            rotate_left 1
            · intro w hSw; (try dsimp only at hSw); go_simp; try with_reducible rfl
            (try simp only [Act.put, List.setIfInBounds_toArray, List.set_cons_zero, List.set_cons_succ])
            refine wpAnyH_take (i := 29) (oi := ({ dst := some 107, op := Op.fieldAddr 42 (Operand.tmp 10) 5, type := 0, pos := "law.go:49", after := #[{ on := 24, ground := Ground.guard }], guard := some (24, false) } : Oper)) (v := ?_) rfl (by kernel_rfl) (by kernel_rfl) (by kernel_rfl) (fun _ _ _ h => h) (Or.inl ⟨by rfl, ?_⟩) (by assumption) ?_
            rotate_left 1
            · intro w hSw; (try dsimp only at hSw); go_simp; try with_reducible rfl
            (try simp only [Act.put, List.setIfInBounds_toArray, List.set_cons_zero, List.set_cons_succ])
            refine wpAnyH_take (i := 30) (oi := ({ dst := some 108, op := Op.load 3 (Operand.tmp 107), type := 3, pos := "law.go:49", after := #[{ on := 29, ground := Ground.data }, { on := 24, ground := Ground.guard }], guard := some (24, false) } : Oper)) (v := ?_) rfl (by kernel_rfl) (by kernel_rfl) (by kernel_rfl) (fun _ _ _ h => h) (Or.inl ⟨by rfl, ?_⟩) (by assumption) ?_
            rotate_left 1
            · intro w hSw; (try dsimp only at hSw); go_simp; try with_reducible rfl
            (try simp only [Act.put, List.setIfInBounds_toArray, List.set_cons_zero, List.set_cons_succ])
            refine wpAnyH_take (i := 31) (oi := ({ dst := some 109, op := Op.binOp BinOp.sub 3 (Operand.tmp 106) (Operand.tmp 108) 3, type := 3, pos := "law.go:49", after := #[{ on := 28, ground := Ground.data }, { on := 30, ground := Ground.data }, { on := 24, ground := Ground.guard }], guard := some (24, false) } : Oper)) (v := ?_) rfl (by kernel_rfl) (by kernel_rfl) (by kernel_rfl) (fun _ _ _ h => h) (Or.inl ⟨by rfl, ?_⟩) (by assumption) ?_
            rotate_left 1
            · intro w hSw; (try dsimp only at hSw); go_simp; try with_reducible rfl
            (try simp only [Act.put, List.setIfInBounds_toArray, List.set_cons_zero, List.set_cons_succ])
            --END
            refine wpAnyH_ready (rs := [26]) (by kernel_rfl) (by simp) ?_
            refine AllReadyH.cons (o := _) rfl (fun K hK => ?_) AllReadyH.nil
            go_simp
            refine (E4.out _ HBV.out).mono ?_
            rintro e V4 ⟨rfl, rfl⟩
            refine hK.out _ _ (SK.out _ HBV.out) (fun hHeld => ?_)
            clear hK K
            (try simp only [Act.put, List.setIfInBounds_toArray, List.set_cons_zero, List.set_cons_succ])
            --TAKES narthex/narthexlaw24.FetchPlays:16 32 33
            refine wpAnyH_take (i := 32) (oi := ({ dst := some 110, op := Op.binOp BinOp.neq 3 (Operand.tmp 104) (Operand.tmp 109) 3, type := 4, pos := "law.go:49", after := #[{ on := 26, ground := Ground.data }, { on := 31, ground := Ground.data }, { on := 24, ground := Ground.guard }], guard := some (24, false) } : Oper)) (v := ?_) rfl (by kernel_rfl) (by kernel_rfl) (by kernel_rfl) (fun _ _ _ h => h) (Or.inl ⟨by rfl, ?_⟩) (by assumption) ?_
            rotate_left 1
            · intro w hSw; (try dsimp only at hSw); go_simp; try with_reducible rfl
            (try simp only [Act.put, List.setIfInBounds_toArray, List.set_cons_zero, List.set_cons_succ])
            refine wpAnyH_take (i := 33) (oi := ({ dst := some 111, op := Op.pick (Operand.tmp 102) (Operand.const (Value.bool true)) (Operand.tmp 110), type := 4, pos := "law.go:49", after := #[{ on := 24, ground := Ground.data }, { on := 32, ground := Ground.data }], guard := none } : Oper)) (v := ?_) rfl (by kernel_rfl) (by kernel_rfl) (by kernel_rfl) (fun _ _ _ h => h) (Or.inl ⟨by rfl, ?_⟩) (by assumption) ?_
            rotate_left 1
            · intro w hSw; (try dsimp only at hSw); go_simp; try with_reducible rfl
            (try simp only [Act.put, List.setIfInBounds_toArray, List.set_cons_zero, List.set_cons_succ])
            --END
            refine wpAnyH_done (by kernel_rfl) ?_ _
            clear hHeld
            have KEV := Lib.hid (KEF.out.trans (HBV.out.mono KEF.out.size))
            have GOV := Lib.hid (GOF.out.below HBV.out)
            have RGV := Lib.hid (RGF.out.below HBV.out)
            have HXV := Lib.hid ((HBV.out.block _ (lt_of_blk HXF.out)).trans HXF.out)
            go_wp2
            go_roundw
            case rel => exact ⟨i + 1, st', s1', X', k', by omega, by go_num, GOV, RGV, HXV, NRC, STN, KEV⟩
            case measure => simp [intOf]; omega
        · obtain rfl : i = q := by omega
          have b1 : ¬ (i : Int) < (i : Int) := by omega
          go_wp2_with fail
          refine (CL.out _ HBW1.out).mono ?_
          rintro e w9 ⟨rfl, hB9⟩
          go_wp2
          go_ret
          exact ⟨rfl, HBW1.out.trans (hB9.mono HBW1.out.size)⟩
    · have hcf : (ck == 0) = false := by simpa using hck
      have N1 := new_bad a b mf mb f g0 B p d L A l.length c w1 m (by rw [← HCK.out]; exact hck) (HL.out.below HB1.out) (by omega) HS.out (max0_below HM.out HB1.out)
      unfold cfgV at N1
      rw [← HCK.out] at N1
      have N1 := Lib.hid N1
      go_wp2_with fail
      refine N1.out.mono ?_
      rintro e w3 ⟨rfl, hB3⟩
      have HB3 := Lib.hid (HB1.out.trans (hB3.mono HB1.out.size))
      have HC3 := Lib.hid (HC1.out.below hB3 z0)
      clear z0 z1 z2 z3 z4 z5 z6 z7 hB3 N1
      obtain ⟨z0, z1, z2, z3, z4, z5, z6, z7⟩ := HC3.out
      go_wp2_with fail
      refine (CC.out w3 HB3.out).mono ?_
      rintro e w4 ⟨rfl, hB4⟩
      have HB4 := Lib.hid (HB3.out.trans (hB4.mono HB3.out.size))
      clear z0 z1 z2 z3 z4 z5 z6 z7 hB4 CC
      go_wp2_with fail
      refine (CL.out _ HB4.out).mono ?_
      rintro e w5 ⟨rfl, hB5⟩
      go_wp2
      go_ret
      exact ⟨rfl, HB4.out.trans (hB5.mono HB4.out.size)⟩
end Go.Proofs.YtkneafpmgbgalaaGreatDoor
