/- Steps in memory; a block of 65 marks; the contracts of taker and of rest. Conditions: at most 64 steps. -/
import Derived.Test.YtlifdmehejehjaaDoorQPlain
import Derived.Test.YtlifdmehejehjaaDoorCharsRef
import Derived.Test.YtlifdmehejehjaaDoorBel
import Derived.Test.YtlifdmehejehjaaDoorStrEq
import Derived.Test.YtlifdmehejehjaaDoorTexts
import Derived.Below
import Derived.Maps.AppendAt
import Derived.RangeFuncBox
import Derived.RangeFuncNested
import Derived.Lib.SmallJoins
import Derived.Laws.Rows
import Derived.Laws.Tables
namespace Go.Proofs.YtlifdmehejehjaaDoor
open Go.RowKit Go.Proofs.YtlifdmehejehjaaDoor.QPlain
set_option linter.unusedVariables false
set_option linter.unusedSimpArgs false
theorem grown_refl (w : World) (row : Option Nat) : w.grownBy w row := ⟨rfl, rfl, rfl, Nat.le_refl _, fun _ _ _ => rfl⟩
theorem grownBy_setAny (W : World) (p : Addr) (v : Value) : W.grownBy (W.setCell p v) (some p.block) :=
  ⟨rfl, rfl, rfl, (KeepsWalks.setCell W _ v).size, fun k _ hk => Below.heap_setCell _ _ _ k (fun e => hk (by rw [e]))⟩
theorem grown_drew (W : World) (row : Option Nat) : W.grownBy W.drew row := ⟨rfl, rfl, rfl, Nat.le_refl _, fun _ _ _ => rfl⟩
def stCells (l : List StN) : List Value := l.flatMap fun x => [.bool x.any, .bool x.deep, .string x.nm]
theorem stCells_append (l m : List StN) : stCells (l ++ m) = stCells l ++ stCells m := by simp [stCells]
theorem stCells_at (l : List StN) (i : Nat) (x : StN) (hx : l[i]? = some x) : (stCells l)[i * 3]? = some (.bool x.any) ∧ (stCells l)[i * 3 + 1]? = some (.bool x.deep) ∧ (stCells l)[i * 3 + 2]? = some (.string x.nm) := by
  induction l generalizing i with
  | nil => simp at hx
  | cons y l ih =>
    cases i with
    | zero => simp at hx; subst hx; simp [stCells]
    | succ i =>
      have h := ih i (by simpa using hx)
      have e1 : (i + 1) * 3 = i * 3 + 1 + 1 + 1 := by omega
      simp only [stCells, List.flatMap_cons, List.cons_append, List.nil_append, e1] at h ⊢
      have r : ∀ j, i * 3 + 1 + 1 + 1 + j = (i * 3 + j) + 1 + 1 + 1 := fun j => by omega
      refine ⟨by simpa using h.1, ?_, ?_⟩
      · rw [r 1]; simpa using h.2.1
      · rw [r 2]; simpa using h.2.2
/-- Steps in memory. -/
def StsAt (w : World) (A : Option Addr) (n : Nat) (l : List StN) : Prop := l.length = n ∧ ∀ i, i < n → ∃ a x, A = some a ∧ l[i]? = some x ∧ a.block < w.heap.size ∧ w.cell? (a.add (i * 3)) = some (.bool x.any) ∧ w.cell? ⟨(a.add (i * 3)).block, (a.add (i * 3)).off + 1, none⟩ = some (.bool x.deep) ∧ w.cell? ⟨(a.add (i * 3)).block, (a.add (i * 3)).off + 2, none⟩ = some (.string x.nm)
theorem StsAt.below {w w' : World} {A : Option Addr} {n : Nat} {l : List StN} (h : StsAt w A n l) (hb : Below w.heap.size w w') : StsAt w' A n l :=
  ⟨h.1, fun i hi => by
    obtain ⟨a, x, h1, h2, h3, h4, h5, h6⟩ := h.2 i hi
    have e : (a.add (i * 3)).block < w.heap.size := by rw [addBlock]; exact h3
    exact ⟨a, x, h1, h2, Nat.lt_of_lt_of_le h3 hb.size, (hb.cell e).trans h4, (hb.cell (p := ⟨(a.add (i * 3)).block, (a.add (i * 3)).off + 1, none⟩) e).trans h5, (hb.cell (p := ⟨(a.add (i * 3)).block, (a.add (i * 3)).off + 2, none⟩) e).trans h6⟩⟩
theorem addGQ (g j : Nat) : (⟨g, 0, none⟩ : Addr).add j = ⟨g, j, none⟩ := by unfold Addr.add; split <;> simp_all
theorem StsAt.of_own {w : World} {base c : Nat} {T : TypeId} {A : Option Addr} {l : List StN} (h : w.ownsRow base T 3 (.slice A l.length c) l.length (stCells l)) : StsAt w A l.length l := by
  refine ⟨rfl, fun i hi => ?_⟩
  rcases h.2 with ⟨_, h2⟩ | ⟨g, cap, cur, hv, hg, hh, _⟩
  · omega
  · cases hv
    obtain ⟨h0, h1, h2⟩ := stCells_at l i l[i] (List.getElem?_eq_getElem hi)
    have hc : ∀ j u, (stCells l)[j]? = some u → w.cell? ⟨g, j, none⟩ = some u := fun j u hj => by
      have := h.cells rfl j u hj
      rwa [addGQ] at this
    refine ⟨⟨g, 0, none⟩, l[i], rfl, List.getElem?_eq_getElem hi, (h.lt g rfl).2, ?_⟩
    rw [addGQ]
    exact ⟨hc _ _ h0, hc _ _ h1, hc _ _ h2⟩
/-- A block of marks. -/
def ArrB (B : Nat) (ls : List Int) (w : World) : Prop := w.heap[B]? = some (.cells (ls.map (Value.int .i64)).toArray 61 (0, 0))
theorem ArrB.lt {B : Nat} {ls : List Int} {w : World} (h : ArrB B ls w) : B < w.heap.size := (Array.getElem?_eq_some_iff.1 h).1
theorem ArrB.below {B : Nat} {ls : List Int} {w w' : World} (h : ArrB B ls w) (hb : Below w.heap.size w w') : ArrB B ls w' := (hb.block B h.lt).trans h
theorem ArrB.drew {B : Nat} {ls : List Int} {w : World} (h : ArrB B ls w) : ArrB B ls w.drew := h
theorem ArrB.cell {B : Nat} {ls : List Int} {w : World} (h : ArrB B ls w) {i : Nat} (hi : i < ls.length) : w.cell? ⟨B, i, none⟩ = some (.int .i64 (ls.getD i 0)) := by
  rw [Lib.cell_of_heap h, List.getD_eq_getElem?_getD, List.getElem?_eq_getElem hi]
  simp [hi]
theorem ArrB.frozen {B : Nat} {ls : List Int} {w : World} (h : ArrB B ls w) (i : Nat) : w.frozen? ⟨B, i, none⟩ = false := Lib.frozen_of_heap h i
theorem ArrB.set {B : Nat} {ls : List Int} {w : World} (h : ArrB B ls w) (i : Nat) (v : Int) : ArrB B (ls.set i v) (w.setCell ⟨B, i, none⟩ (.int .i64 v)) := by
  have := Go.Joins.block_setCell (i := i) h (.int .i64 v)
  unfold ArrB
  rw [this]
  simp [List.map_set]
theorem ArrB.other {B b : Nat} {ls : List Int} {w : World} (h : ArrB B ls w) (hne : B ≠ b) (o : Nat) (v : Value) : ArrB B ls (w.setCell ⟨b, o, none⟩ v) := by
  unfold ArrB at *
  rw [Below.heap_setCell _ _ _ _ (by exact hne)]; exact h
set_option maxHeartbeats 1000000 in
theorem taker_any (s : StN) (w : World) : Calls Tryd.prog 26 #[.agg #[.bool s.any, .bool s.deep, .string s.nm]] w fun e w' => e = .returned (.func (.func 39) #[] #[.pointer (some ⟨w.heap.size, 0, none⟩)]) ∧ w' = w.alloc (.cells #[.bool s.any, .bool s.deep, .string s.nm] 35) := by
  go_enter Tryd.func26, Tryd.ntmps26
  go_wp2
  go_ret
  exact ⟨rfl, rfl⟩
set_option maxHeartbeats 1000000 in
theorem takes_any (s : StN) (p : ByteArray) (B : Nat) (w : World) (h0 : w.cell? ⟨B, 0, none⟩ = some (.bool s.any)) (h1 : w.cell? ⟨B, 1, none⟩ = some (.bool s.deep)) (h2 : w.cell? ⟨B, 2, none⟩ = some (.string s.nm)) :
    Calls Tryd.prog 39 #[.string p, .pointer (some ⟨B, 0, none⟩)] w (RetB (tkP s p) w) := by
  obtain ⟨b, hb⟩ : ∃ b, b = tkP s p := ⟨_, rfl⟩
  rw [← hb]
  unfold tkP at hb
  obtain ⟨any, deep, nm⟩ := s
  dsimp only at h0 h1 h2 hb
  have hd : decide (nm = p) = (nm.toList == p.toList) := by
    by_cases h : nm = p
    · subst h; simp
    · rw [decide_eq_false h, sL_no h]
  rw [hd] at hb
  clear hd
  have HB := Lib.hid hb
  clear hb
  cases any <;> cases deep
  all_goals
    go_enter Tryd.func39, Tryd.ntmps39
    go_wp2
    go_ret
    exact ⟨by rw [HB.out]; rfl, rfl⟩
theorem StsAt.grown {w w' : World} {A : Option Addr} {n B : Nat} {l : List StN} (h : StsAt w A n l) (hg : w.grownBy w' (some B)) (hne : 0 < n → ∀ a, A = some a → a.block ≠ B) : StsAt w' A n l :=
  ⟨h.1, fun i hi => by
    obtain ⟨a, x, h1, h2, h3, h4, h5, h6⟩ := h.2 i hi
    have e : some (a.add (i * 3)).block ≠ some B := by rw [addBlock]; exact fun e => hne (by omega) a h1 (Option.some.inj e)
    exact ⟨a, x, h1, h2, Nat.lt_of_lt_of_le h3 hg.size, hg.cell h4 e, hg.cell (a := ⟨(a.add (i * 3)).block, (a.add (i * 3)).off + 1, none⟩) h5 e, hg.cell (a := ⟨(a.add (i * 3)).block, (a.add (i * 3)).off + 2, none⟩) h6 e⟩⟩
def RestTold (B : Nat) (ls : List Int) (w : World) (e : Ending) (w' : World) : Prop := (∃ v, e = .returned v) ∧ ArrB B ls w' ∧ w.grownBy w' (some B)
set_option maxRecDepth 100000 in
set_option maxHeartbeats 2000000 in
theorem rest_any (A : Option Addr) (n cp B : Nat) (l : List StN) (ls : List Int) (w : World) (hn : n ≤ 64) (hs : StsAt w A n l) (ha : ArrB B ls w) (hlen : ls.length = 65) (hbd : Bd 1 ls) (hne : 0 < n → ∀ a, A = some a → a.block ≠ B) :
    Calls Tryd.prog 25 #[.slice A n cp, .pointer (some ⟨B, 0, none⟩)] w (RestTold B (restF (dpN l) n ls) w) := by
  have HS := Lib.hid hs
  have HA := Lib.hid ha
  have HBD := Lib.hid hbd
  have HNE := Lib.hid hne
  have HL := Lib.hid hlen
  clear hs ha hbd hne hlen
  go_enter Tryd.func25, Tryd.ntmps25
  go_wp2
  go_loopw [7] (fun v7 wr => ∃ k : Nat, k ≤ n ∧ v7 = .int .i64 k ∧ Hid (ArrB B (restF (dpN l) k ls) wr) ∧ Hid (w.grownBy wr (some B))) (fun v7 _ => n - (intOf v7).toNat)
  case atStart => exact ⟨0, Nat.zero_le _, rfl, HA, grown_refl _ _⟩
  case round =>
    obtain ⟨k, hk, rfl, HR, HG⟩ := hrel
    by_cases hlt : k < n
    · obtain ⟨a, x, rfl, hx, -, h0, h1, h2⟩ := (HS.out.grown HG.out HNE.out).2 k hlt
      have b0 : (0 : Int) ≤ (k : Int) := by omega
      have b1 : (k : Int) < (n : Int) := by omega
      have b2 : (k : Int) < 65 := by omega
      have b3 : (k : Int) + 1 < 65 := by omega
      have hdp : dpN l k = x.deep := by unfold dpN; rw [List.getD_eq_getElem?_getD, hx]; rfl
      have c0 := HR.out.cell (i := k) (by rw [restF_len, HL.out]; omega)
      have c1 := HR.out.cell (i := k + 1) (by rw [restF_len, HL.out]; omega)
      have f1 := HR.out.frozen (k + 1)
      have d0 := restF_bd (dpN l) k ls HBD.out k
      have d1 := restF_bd (dpN l) k ls HBD.out (k + 1)
      have hsucc := restF_succ (dpN l) k ls
      have hset := HR.out.set (k + 1) ((restF (dpN l) k ls).getD (k + 1) 0 + 1)
      unfold ps at hsucc
      rw [hdp] at hsucc
      generalize hrr : restF (dpN l) k ls = rr at *
      generalize rr.getD k 0 = v at *
      generalize rr.getD (k + 1) 0 = u at *
      have HSU := Lib.hid hsucc
      have HST := Lib.hid hset
      clear hsucc hset hx hdp hrr
      by_cases hv : 0 < v
      · cases hd : x.deep with
        | true =>
          rw [hd] at h1
          have HQ : Hid (restF (dpN l) (k + 1) ls = rr.set (k + 1) (u + 1)) := by show _ = _; rw [HSU.out, hd]; simp [hv]
          clear hd
          go_wp2
          go_region
          all_goals
            go_wp2
            go_roundw
            case rel => exact ⟨k + 1, by omega, by go_num, by rw [HQ.out]; exact HST.out, ((HG.out.trans (grownBy_setAny _ _ _)).trans (grown_drew _ _))⟩
            case measure => simp [intOf]; omega
        | false =>
          rw [hd] at h1
          have HQ : Hid (restF (dpN l) (k + 1) ls = rr) := by show _ = _; rw [HSU.out, hd]; simp
          clear hd
          go_wp2
          go_roundw
          case rel => exact ⟨k + 1, by omega, by go_num, by rw [HQ.out]; exact HR.out, HG.out⟩
          case measure => simp [intOf]; omega
      · have HQ : Hid (restF (dpN l) (k + 1) ls = rr) := by show _ = _; rw [HSU.out]; simp [hv]
        go_wp2
        go_roundw
        case rel => exact ⟨k + 1, by omega, by go_num, by rw [HQ.out]; exact HR.out, HG.out⟩
        case measure => simp [intOf]; omega
    · obtain rfl : k = n := by omega
      go_wp2
      refine bodyPost_ret (results_none rfl _ _ _) rfl ?_
      exact ⟨⟨_, rfl⟩, HR.out, HG.out⟩
end Go.Proofs.YtlifdmehejehjaaDoor
