/- Merged texts: FetP, FetMem, FetAsk, FetGM. -/
import Derived.Test.YtkneafpmgbgalaaGreatDoorOrOnly
import Derived.Test.YtkneafpmgbgalaaGreatDoorOrCopy
import Derived.Test.YtkneafpmgbgalaaGreatDoorTexts
import Derived.Maps.AppendAt
import Derived.Lib.Hide
import Derived.Test.YtkneafpmgbgalaaGreatDoorOrAgreeMap
import Derived.Test.YtkneafpmgbgalaaGreatDoorShelf
/- What a guard tells, one identifier behind the other: plain lists; no program in sight. -/
namespace Go.Proofs.YtkneafpmgbgalaaGreatDoor
open Go.Proofs.YtkneafpmgbgalaaGreatDoor.UriPlain
set_option linter.unusedVariables false
theorem putA_daF (l : List AnP) : ∀ b ∈ putA l, b.da = [] ∨ ∃ a ∈ l, b.da = a.da := by
  refine rec_snoc (p := fun l => ∀ b ∈ putA l, b.da = [] ∨ ∃ a ∈ l, b.da = a.da) (by simp [putA]) (fun l a ih => ?_) l
  intro b hb
  rw [putA_snoc] at hb
  have h0 : b ∈ putA l → b.da = [] ∨ ∃ x ∈ l ++ [a], b.da = x.da := fun h => (ih b h).imp id (fun ⟨x, hx, e⟩ => ⟨x, List.mem_append_left _ hx, e⟩)
  unfold stepA at hb
  split at hb
  · rcases List.mem_append.1 hb with hb | hb
    · exact h0 hb
    · simp at hb; subst hb
      unfold canA
      cases a.ok
      · exact .inl rfl
      · exact .inr ⟨a, by simp, rfl⟩
  · exact h0 hb
theorem found_da {ps : List AnP} {s : ByteArray} {a : AnP} {B : Nat} (h : foundA ps s = some a) (hb : ∀ x ∈ ps, x.da.length ≤ B) : a.da.length ≤ B := by
  unfold foundA at h
  split at h
  · rcases putA_daF ps a (List.mem_of_find?_eq_some h) with h1 | ⟨x, hx, h1⟩
    · rw [h1]; exact Nat.zero_le _
    · rw [h1]; exact hb x hx
  · cases h
/-- What was fetched: the trace, what was told of each, the bytes read. -/
structure FS where
  tr : List ByteArray
  out : List (List Int × Int)
  rd : Int
def idxT (l : List ByteArray) (s : ByteArray) : Option Nat := l.findIdx? (fun x => decide (x = s))
theorem idxT_none {l : List ByteArray} {s : ByteArray} : idxT l s = none ↔ ∀ x ∈ l, x ≠ s := by unfold idxT; rw [List.findIdx?_eq_none_iff]; simp
theorem idxT_some {l : List ByteArray} {s : ByteArray} {i : Nat} (h : idxT l s = some i) : ∃ hi : i < l.length, l[i] = s ∧ ∀ j (hj : j < i), l[j] ≠ s := by
  obtain ⟨h1, h2, h3⟩ := List.findIdx?_eq_some_iff_getElem.1 h
  exact ⟨h1, by simpa using h2, fun j hj => by simpa using h3 j hj⟩
def fs0 : FS := ⟨[], [], 0⟩
/-- What the script tells, within the bytes that are left: the bytes, the error, the bytes that are read then. -/
def askF (ps : List AnP) (most : Int) (rd : Int) (s : ByteArray) : List Int × Int × Int :=
  match foundA ps s with
  | none => ([], 10, rd)
  | some a => if a.ok = false then ([], 10, rd) else if most - rd < a.da.length then ([], 11, most) else (a.da, 0, rd + a.da.length)
def fndF (st : FS) (s : ByteArray) : Option (List Int × Int) := (idxT st.tr s).bind fun i => st.out[i]?
/-- A step: the state behind, the bytes, the error. -/
def getF (L : List ByteArray) (ps : List AnP) (mf mb : Int) (st : FS) (id : ByteArray) : FS × (List Int × Int) :=
  if findB L id.data.toList = false then (st, ([], 10))
  else match idxT st.tr (nrmA id) with
    | some i => (st, st.out.getD i ([], 0))
    | none => if mf ≤ st.tr.length then (st, ([], 11))
      else (⟨st.tr ++ [nrmA id], st.out ++ [((askF ps mb st.rd (nrmA id)).1, (askF ps mb st.rd (nrmA id)).2.1)], (askF ps mb st.rd (nrmA id)).2.2⟩, ((askF ps mb st.rd (nrmA id)).1, (askF ps mb st.rd (nrmA id)).2.1))
theorem getF_no {L : List ByteArray} {ps : List AnP} {mf mb : Int} {st : FS} {id : ByteArray} (h : findB L id.data.toList = false) : getF L ps mf mb st id = (st, ([], 10)) := by unfold getF; rw [if_pos h]
theorem getF_old {L : List ByteArray} {ps : List AnP} {mf mb : Int} {st : FS} {id : ByteArray} {i : Nat} (h : findB L id.data.toList = true) (hi : idxT st.tr (nrmA id) = some i) : getF L ps mf mb st id = (st, st.out.getD i ([], 0)) := by unfold getF; rw [if_neg (by simp [h]), hi]
theorem getF_full {L : List ByteArray} {ps : List AnP} {mf mb : Int} {st : FS} {id : ByteArray} (h : findB L id.data.toList = true) (hi : idxT st.tr (nrmA id) = none) (hf : mf ≤ st.tr.length) : getF L ps mf mb st id = (st, ([], 11)) := by unfold getF; rw [if_neg (by simp [h]), hi]; simp only [if_pos hf]
theorem getF_new {L : List ByteArray} {ps : List AnP} {mf mb : Int} {st : FS} {id : ByteArray} (h : findB L id.data.toList = true) (hi : idxT st.tr (nrmA id) = none) (hf : ¬ mf ≤ st.tr.length) :
    getF L ps mf mb st id = (⟨st.tr ++ [nrmA id], st.out ++ [((askF ps mb st.rd (nrmA id)).1, (askF ps mb st.rd (nrmA id)).2.1)], (askF ps mb st.rd (nrmA id)).2.2⟩, ((askF ps mb st.rd (nrmA id)).1, (askF ps mb st.rd (nrmA id)).2.1)) := by unfold getF; rw [if_neg (by simp [h]), hi]; simp only [if_neg hf]
theorem ask_none {ps : List AnP} {m rd : Int} {s : ByteArray} (h : foundA ps s = none) : askF ps m rd s = ([], 10, rd) := by unfold askF; rw [h]
theorem ask_fail {ps : List AnP} {m rd : Int} {s : ByteArray} {a : AnP} (h : foundA ps s = some a) (h2 : a.ok = false) : askF ps m rd s = ([], 10, rd) := by unfold askF; rw [h]; simp only [if_pos h2]
theorem ask_limit {ps : List AnP} {m rd : Int} {s : ByteArray} {a : AnP} (h : foundA ps s = some a) (h2 : a.ok = true) (h3 : m - rd < a.da.length) : askF ps m rd s = ([], 11, m) := by unfold askF; rw [h]; simp only [if_neg (show ¬ a.ok = false by simp [h2]), if_pos h3]
theorem ask_ok {ps : List AnP} {m rd : Int} {s : ByteArray} {a : AnP} (h : foundA ps s = some a) (h2 : a.ok = true) (h3 : ¬ m - rd < a.da.length) : askF ps m rd s = (a.da, 0, rd + a.da.length) := by unfold askF; rw [h]; simp only [if_neg (show ¬ a.ok = false by simp [h2]), if_neg h3]
/-- A state that may be: as many told as in the trace, no more bytes than may be, no name twice. -/
structure FOk (L : List ByteArray) (mf mb : Int) (st : FS) : Prop where
  len : st.out.length = st.tr.length
  rd0 : 0 ≤ st.rd
  rdm : st.rd ≤ mb
  most : st.tr.length ≤ mf
  dist : st.tr.Pairwise (· ≠ ·)
  all : ∀ s ∈ st.tr, ∃ id : ByteArray, findB L id.data.toList = true ∧ s = nrmA id
  ers : ∀ o ∈ st.out, 0 ≤ o.2 ∧ o.2 ≤ 13
theorem ask_rd (ps : List AnP) (m rd : Int) (s : ByteArray) (h0 : 0 ≤ rd) (h : rd ≤ m) : 0 ≤ (askF ps m rd s).2.2 ∧ (askF ps m rd s).2.2 ≤ m ∧ 0 ≤ (askF ps m rd s).2.1 ∧ (askF ps m rd s).2.1 ≤ 13 := by
  unfold askF
  split
  · exact ⟨h0, h, by show (0 : Int) ≤ 10; decide, by show (10 : Int) ≤ 13; decide⟩
  · split
    · exact ⟨h0, h, by show (0 : Int) ≤ 10; decide, by show (10 : Int) ≤ 13; decide⟩
    · split
      · exact ⟨by show (0 : Int) ≤ m; omega, Int.le_refl _, by show (0 : Int) ≤ 11; decide, by show (11 : Int) ≤ 13; decide⟩
      · exact ⟨by show (0 : Int) ≤ rd + _; omega, by show rd + _ ≤ m; omega, by show (0 : Int) ≤ 0; decide, by show (0 : Int) ≤ 13; decide⟩
theorem FOk.start (L : List ByteArray) (mf mb : Int) (h1 : 0 ≤ mf) (h2 : 0 ≤ mb) : FOk L mf mb fs0 := ⟨rfl, Int.le_refl _, h2, h1, List.Pairwise.nil, by simp [fs0], by simp [fs0]⟩
theorem FOk.get {L : List ByteArray} {ps : List AnP} {mf mb : Int} {st : FS} (h : FOk L mf mb st) (id : ByteArray) : FOk L mf mb (getF L ps mf mb st id).1 := by
  cases hf : findB L id.data.toList with
  | false => rw [getF_no hf]; exact h
  | true =>
    cases hi : idxT st.tr (nrmA id) with
    | some i => rw [getF_old hf hi]; exact h
    | none =>
      by_cases hm : mf ≤ st.tr.length
      · rw [getF_full hf hi hm]; exact h
      · rw [getF_new hf hi hm]
        have hr := ask_rd ps mb st.rd (nrmA id) h.rd0 h.rdm
        refine ⟨by simp [h.len], hr.1, hr.2.1, by simp; omega, ?_, ?_, ?_⟩
        · refine List.pairwise_append.2 ⟨h.dist, List.pairwise_singleton _ _, fun x hx y hy => ?_⟩
          simp at hy; subst hy
          exact idxT_none.1 hi x hx
        · intro s hs
          rcases List.mem_append.1 hs with hs | hs
          · exact h.all s hs
          · simp at hs; exact ⟨id, hf, hs⟩
        · intro o ho
          rcases List.mem_append.1 ho with ho | ho
          · exact h.ers o ho
          · simp at ho; subst ho; exact hr.2.2
end Go.Proofs.YtkneafpmgbgalaaGreatDoor
/- A guard in memory; copies of rows of texts. Conditions: at most 2^20 texts. -/
namespace Go.Proofs.YtkneafpmgbgalaaGreatDoor
open Go.RowKit
set_option linter.unusedVariables false
set_option linter.unusedSimpArgs false
theorem Tryz.infoStrF : (Tryz.prog.info? 9).map (fun i => (i.zero, i.size, i.bytes)) = some (some (.string ⟨#[]⟩), 1, 16) := by kernel_rfl
theorem ownF_shape {w : World} {base : Nat} {e : TypeId} {size : Nat} {v : Value} {n : Nat} {xs : List Value} (h : w.ownsRow base e size v n xs) : ∃ A c, v = .slice A n c ∧ n ≤ c ∧ c ≤ 9223372036854775807 := by
  rcases h.2 with ⟨h1, h2⟩ | ⟨g, cap, cur, rfl, _, _, h3, h4, _⟩
  · exact ⟨none, 0, by rw [h1, h2], by omega, by omega⟩
  · exact ⟨_, _, rfl, h3, by unfold maxLen at h4; exact h4⟩
theorem ownF_below {w w' : World} {base : Nat} {e : TypeId} {size : Nat} {v : Value} {n : Nat} {xs : List Value} (h : w.ownsRow base e size v n xs) (hb : Below w.heap.size w w') : w'.ownsRow base e size v n xs := by
  refine ⟨h.1, ?_⟩
  rcases h.2 with h2 | ⟨g, cap, cur, hv, hg, hh, r⟩
  · exact .inl h2
  · exact .inr ⟨g, cap, cur, hv, hg, (hb.block g (Array.getElem?_eq_some_iff.1 hh).1).trans hh, r⟩
theorem ownF_base {w : World} {base base' : Nat} {e : TypeId} {size : Nat} {v : Value} {n : Nat} {xs : List Value} (h : w.ownsRow base e size v n xs) (hb : base' ≤ base) : w.ownsRow base' e size v n xs := by
  refine ⟨h.1, ?_⟩
  rcases h.2 with h2 | ⟨g, cap, cur, hv, hg, r⟩
  · exact .inl h2
  · exact .inr ⟨g, cap, cur, hv, Nat.le_trans hb hg, r⟩
def TellRowF (l : List ByteArray) (w : World) (e : Ending) (w' : World) : Prop := ∃ A c, e = .returned (.slice A l.length c) ∧ w'.ownsRow w.heap.size 9 1 (.slice A l.length c) l.length (txtCells l) ∧ Below w.heap.size w w'
theorem eqStrsSome (a : Addr) (n c : Nat) (W : World) : (binOp .eql 22 (.slice (some a) n c) (.slice none 0 0)).run Tryz.prog W = .ok (.bool false) W := by kernel_rfl
theorem eqStrsNone (n c : Nat) (W : World) : (binOp .eql 22 (.slice none n c) (.slice none 0 0)).run Tryz.prog W = .ok (.bool true) W := by kernel_rfl
set_option maxRecDepth 100000 in
set_option maxHeartbeats 2000000 in
theorem cloneStrs_any (A : Option Addr) (n c : Nat) (l : List ByteArray) (w : World) (hl : TsAt w A n l) (hn : n ≤ 1048576) :
    Calls Tryz.prog 23 #[.slice A n c] w (TellRowF l w) := by
  obtain ⟨i0, hi0, hz0, hz1, hz2⟩ := info_partsO Tryz.infoStrF
  cases A with
  | none =>
    obtain rfl : n = 0 := by
      rcases Nat.eq_zero_or_pos n with h | h
      · exact h
      · obtain ⟨a, x, hA, _⟩ := hl.2 0 h; cases hA
    obtain rfl : l = [] := List.eq_nil_of_length_eq_zero hl.1
    clear hl
    have q0 := eqStrsNone 0 c
    go_enter Tryz.func23, Tryz.ntmps23
    go_wp2
    go_ret
    exact ⟨none, 0, rfl, World.ownsRow_nil _ _ _ _, Below.refl _ _⟩
  | some a =>
    have hlen := hl.1
    have hB : Below w.heap.size w (w.alloc (.cells #[] 9)) := (Below.refl _ w).alloc (Nat.le_refl _) _
    have HC2 : Hid (∀ (j : Nat) (u : Value), (txtCells l)[j]? = some u → (w.alloc (.cells #[] 9)).cell? (a.add j) = some u) := by
      intro j u hj
      unfold txtCells at hj
      rw [List.getElem?_map] at hj
      cases hx : l[j]? with
      | none => rw [hx] at hj; cases hj
      | some x =>
        rw [hx] at hj
        have hj : Value.string x = u := by simpa using hj
        subst hj
        obtain ⟨a', y, hA, hy, hb, h0⟩ := hl.2 j (by rw [← hlen]; exact (List.getElem?_eq_some_iff.1 hx).1)
        cases hA
        rw [hx] at hy
        cases hy
        exact (hB.cell (p := a.add j) (by rw [addBlockT]; exact hb)).trans h0
    have hO : (w.alloc (.cells #[] 9)).ownsRow w.heap.size 9 1 (.slice (some ⟨w.heap.size, 0, none⟩) 0 0) 0 [] := World.ownsRow_lit w #[] 0 (Nat.le_refl _) (by unfold maxLen; omega) rfl
    clear hl
    have q0 := eqStrsSome a n c
    go_enter Tryz.func23, Tryz.ntmps23
    go_wp2_with (at_builtin; refine wpList_append_own _ rfl (.tmp 5) (.tmp 6) 22 rfl w.heap.size 9 i0 (.string ⟨#[]⟩) 1 16 Tryz.underlying22 hi0 hz0 hz1 hz2 rfl (by decide) _ 0 [] rfl hO a n c (txtCells l) rfl (by unfold txtCells; rw [List.length_map, hlen]; omega) HC2.out (by intro u hu; unfold txtCells at hu; obtain ⟨x, _, rfl⟩ := List.mem_map.1 hu; rfl) (by unfold maxLen; omega) (by omega) (by simp) ?_)
    intro v' w2 hown' hgrow _
    have HB2 := hB.grown hgrow (by simp) (fun g hg => (hO.lt g hg).1)
    obtain ⟨A2, c2, rfl, _, _⟩ := ownF_shape hown'
    go_wp2
    go_ret
    subst hlen
    exact ⟨A2, c2, by simp, by simpa using hown', HB2⟩
end Go.Proofs.YtkneafpmgbgalaaGreatDoor
/- The contract of fetch's ask: the resolver, once for each. Conditions: at most 2^20 answers, each of at most 2^20 bytes; limits up to 2^41; internal/bytealg.MaxLen holds an int. -/
namespace Go.Proofs.YtkneafpmgbgalaaGreatDoor
open Go.RowKit Go.Maps Go.Proofs.YtkneafpmgbgalaaGreatDoor.UriPlain
set_option linter.unusedVariables false
set_option linter.unusedSimpArgs false
def guardCells (mf lf rd : Int) (a s t m : Value) : Array Value := #[.int .i64 mf, .int .i64 lf, .int .i64 rd, a, s, t, m]
theorem guard_cell {w : World} {g : Nat} {mf lf rd : Int} {a s t m : Value} (h : w.heap[g]? = some (.cells (guardCells mf lf rd a s t m) 58 (0, 0))) :
    w.cell? ⟨g, 0, none⟩ = some (.int .i64 mf) ∧ w.cell? ⟨g, 1, none⟩ = some (.int .i64 lf) ∧ w.cell? ⟨g, 2, none⟩ = some (.int .i64 rd) ∧ w.cell? ⟨g, 3, none⟩ = some a ∧ w.cell? ⟨g, 4, none⟩ = some s ∧ w.cell? ⟨g, 5, none⟩ = some t ∧ w.cell? ⟨g, 6, none⟩ = some m := by
  refine ⟨?_, ?_, ?_, ?_, ?_, ?_, ?_⟩ <;> (rw [Lib.cell_of_heap h]; rfl)
theorem guard_set1 {w : World} {g : Nat} {mf lf rd : Int} {a s t m : Value} (h : w.heap[g]? = some (.cells (guardCells mf lf rd a s t m) 58 (0, 0))) (x : Int) :
    (w.setCell ⟨g, 1, none⟩ (.int .i64 x)).heap[g]? = some (.cells (guardCells mf x rd a s t m) 58 (0, 0)) := Go.Joins.block_setCell (i := 1) h _
theorem guard_set2 {w : World} {g : Nat} {mf lf rd : Int} {a s t m : Value} (h : w.heap[g]? = some (.cells (guardCells mf lf rd a s t m) 58 (0, 0))) (x : Int) :
    (w.setCell ⟨g, 2, none⟩ (.int .i64 x)).heap[g]? = some (.cells (guardCells mf lf x a s t m) 58 (0, 0)) := Go.Joins.block_setCell (i := 2) h _
theorem ask_grown {w w' : World} (h : Below w.heap.size w w') (g : Nat) : w.grownBy w' (some g) := ⟨h.os, h.tape, h.output, h.size, fun k hk _ => h.block k hk⟩
theorem grown_set {w W : World} {g b i : Nat} {u : Value} (h : w.grownBy W (some g)) (hb : w.heap.size ≤ b ∨ b = g) : w.grownBy (W.setCell ⟨b, i, none⟩ u) (some g) :=
  ⟨h.os, h.tape, h.output, by simpa using h.size, fun k hk hne => (Below.heap_setCell _ _ _ k (by
    show k ≠ b
    rintro rfl
    rcases hb with hb | hb
    · omega
    · exact hne (by rw [hb]))).trans (h.block k hk hne)⟩
theorem grown_drewF {w W : World} {row : Option Nat} (h : w.grownBy W row) : w.grownBy W.drew row := ⟨h.os, h.tape, h.output, h.size, h.block⟩
theorem FreshZ.keep {w w' : World} {base : Nat} {y : An} (h : FreshZ w base y) (hk : ∀ (k : Nat) (cs : Array Value), w.heap[k]? = some (.cells cs 5 (0, 0)) → w'.heap[k]? = some (.cells cs 5 (0, 0))) : FreshZ w' base y := by
  rcases h with ⟨g, h1, h2, h3, r⟩ | h
  · exact .inl ⟨g, h1, h2, hk _ _ h3, r⟩
  · exact .inr h
theorem FreshZ.base {w : World} {base base' : Nat} {y : An} (h : FreshZ w base y) (hb : base' ≤ base) : FreshZ w base' y := h.imp (fun h => h.base hb) id
theorem keep_set {w W : World} {b i : Nat} {u : Value} {cs : Array Value} {t : TypeId} (hb : W.heap[b]? = some (.cells cs t (0, 0))) (ht : ¬ t = 5) (k : Nat) (ds : Array Value) (h : W.heap[k]? = some (.cells ds 5 (0, 0))) : (W.setCell ⟨b, i, none⟩ u).heap[k]? = some (.cells ds 5 (0, 0)) := by
  rw [Below.heap_setCell _ _ _ k (by show k ≠ b; rintro rfl; rw [hb] at h; cases h; exact ht rfl)]; exact h
structure AskTold (ps : List AnP) (s : ByteArray) (mf lf rd : Int) (a sc t m : Value) (g : Nat) (w : World) (y : An) (er lf' rd' : Int) (w' : World) : Prop where
  ask : askF ps (lf + rd) rd s = (y.da, er, rd')
  left : lf' = lf + rd - rd'
  blk : w'.heap[g]? = some (.cells (guardCells mf lf' rd' a sc t m) 58 (0, 0))
  fresh : FreshZ w' w.heap.size y
  grown : w.grownBy w' (some g)
def AskToldE (ps : List AnP) (s : ByteArray) (mf lf rd : Int) (a sc t m : Value) (g : Nat) (w : World) (e : Ending) (w' : World) : Prop := ∃ (y : An) (er lf' rd' : Int), e = .returned (.agg #[.slice y.D y.n y.c, .int .i64 er]) ∧ AskTold ps s mf lf rd a sc t m g w y er lf' rd' w'
set_option maxRecDepth 100000 in
set_option maxHeartbeats 8000000 in
theorem ask_any (A : Option Addr) (n c : Nat) (ys : List An) (s : ByteArray) (g : Nat) (mf lf rd : Int) (aS tS mS : Value) (w : World) (m : Int) (hy : AnsAt w A n ys) (hn : n ≤ 1048576) (hsz : ∀ x ∈ ys, x.n ≤ 1048576) (hm : w.cell? ⟨0, 0, none⟩ = some (.int .i64 m))
    (hg : w.heap[g]? = some (.cells (guardCells mf lf rd aS (.slice A n c) tS mS) 58 (0, 0))) (hg0 : 0 < g) (b1 : 0 ≤ lf) (b2 : lf ≤ 2199023255552) (b3 : 0 ≤ rd) (b4 : rd ≤ 2199023255552) :
    Calls Tryz.prog 26 #[.pointer (some ⟨g, 0, none⟩), .string s] w (AskToldE (ys.map An.pl) s mf lf rd aS (.slice A n c) tS mS g w) := by
  obtain rfl := hy.1
  have hda : ∀ a ∈ ys.map An.pl, a.da.length ≤ 1048576 := by
    intro a ha
    obtain ⟨x, hx, rfl⟩ := List.mem_map.1 ha
    have h1 := (hy.ok x hx).1.1
    show x.da.length ≤ _
    rw [h1]; exact hsz x hx
  have HDA := Lib.hid hda
  clear hda
  obtain ⟨W0, hW0⟩ : ∃ W0, W0 = w.alloc (.cells #[.slice none 0 0, .int .i64 0] 60) := ⟨_, rfl⟩
  have hB0 : Below w.heap.size w W0 := by rw [hW0]; exact (Below.refl _ _).alloc (Nat.le_refl _) _
  have hh0 : W0.heap[w.heap.size]? = some (.cells #[.slice none 0 0, .int .i64 0] 60 (0, 0)) := by rw [hW0]; exact heap_alloc_new w _
  have hs0 : w.heap.size < W0.heap.size := by rw [hW0]; simp
  have hgl : g < w.heap.size := (Array.getElem?_eq_some_iff.1 hg).1
  have hg1 := (hB0.block g hgl).trans hg
  have F := Lib.hid (ofind_any A ys.length c ys s W0 m (hy.below hB0) hn hsz (max0_below hm hB0))
  obtain ⟨-, c1, c2, -, c4, -, -⟩ := guard_cell hg1
  have hw0 := hW0.symm
  have HB0 := Lib.hid hB0
  have HH0 := Lib.hid hh0
  have HS0 := Lib.hid hs0
  have HG1 := Lib.hid hg1
  obtain ⟨o, ho⟩ : ∃ o, o = foundA (ys.map An.pl) s := ⟨_, rfl⟩
  rw [← ho] at F
  have HO := Lib.hid ho
  clear hy hsz hm hg hW0 hB0 hh0 hs0 hg1 ho
  go_enter Tryz.func26, Tryz.ntmps26
  go_wp2_with fail
  refine F.out.mono ?_
  clear hw0
  rintro e w1 ⟨y, rfl, hyo, hfr, hB1⟩
  obtain ⟨W, hW, hbW, hhW, hltW, d0, d1, d2⟩ := anBox w1 y 51
  have hB2 := hB1.trans (hbW.mono hB1.size)
  have hgW := (hB2.block g (Nat.lt_trans hgl HS0.out)).trans HG1.out
  have hrW := (hB2.block _ HS0.out).trans HH0.out
  have hfW := (hfr.below hbW)
  obtain ⟨-, c1, c2, -, c4, -, -⟩ := guard_cell hgW
  have q1 := Lib.frozen_of_heap hgW 1
  have q2 := Lib.frozen_of_heap hgW 2
  have r0 : W.cell? ⟨w.heap.size, 0, none⟩ = some (.slice none 0 0) := by rw [Lib.cell_of_heap hrW]; rfl
  have r1 : W.cell? ⟨w.heap.size, 1, none⟩ = some (.int .i64 0) := by rw [Lib.cell_of_heap hrW]; rfl
  have t0 := Lib.frozen_of_heap hrW 0
  have t1 := Lib.frozen_of_heap hrW 1
  have HBW := Lib.hid (HB0.out.trans (hB2.mono HB0.out.size))
  have HGW := Lib.hid hgW
  have HFW := Lib.hid hfW
  have HRW := Lib.hid hrW
  have HYO := Lib.hid hyo
  have n1 : ¬ g = w.heap.size := by omega
  have n2 : ¬ w.heap.size = g := by omega
  have n3 : ¬ w1.heap.size = g := by have := hB1.size; have := HS0.out; omega
  have n4 : ¬ g = w1.heap.size := by have := hB1.size; have := HS0.out; omega
  have n5 : ¬ w1.heap.size = w.heap.size := by have := hB1.size; have := HS0.out; omega
  have n6 : ¬ w.heap.size = w1.heap.size := by have := hB1.size; have := HS0.out; omega
  have hyn : y.n ≤ 1048576 := by
    have h1 := hfW.ok.1.1
    rw [← h1]
    cases o with
    | none => rw [show y.da = [] from congrArg AnP.da hyo]; exact Nat.zero_le _
    | some a =>
      rw [show y.da = a.da from congrArg AnP.da hyo]
      exact found_da HO.out.symm HDA.out
  clear hB1 hbW hhW hltW hB2 hgW hrW hfr hfW hyo F
  cases o with
  | none =>
    have ha := ask_none (m := lf + rd) (rd := rd) HO.out.symm
    have HASK := Lib.hid ha
    clear ha d0 d1
    go_wp2
    refine bodyPost_ret (v := .agg #[.slice none 0 0, .int .i64 10]) (by simp [results, Tryz.results26, go_sem, r0, r1, t0, t1]) rfl ?_
    refine ⟨⟨⟨#[]⟩, false, none, 0, 0, []⟩, 10, lf, rd, rfl, HASK.out, by omega, ?_, .inr rfl, ?_⟩
    · rw [Below.heap_setCell _ _ _ _ (by exact n1), Below.heap_setCell _ _ _ _ (by exact n1)]; exact HGW.out
    · exact ask_grown ((HBW.out.setCell (p := ⟨w.heap.size, 0, none⟩) (Nat.le_refl _) _).setCell (p := ⟨w.heap.size, 1, none⟩) (Nat.le_refl _) _) _
  | some a =>
    have hya := HYO.out
    obtain ⟨p1, p2, p3⟩ : y.id = a.id ∧ y.ok = a.ok ∧ y.da = a.da := by
      rw [Option.getD_some] at hya
      unfold An.pl at hya
      subst hya
      exact ⟨rfl, rfl, rfl⟩
    have hlen := HFW.out.ok.1.1
    cases hok : y.ok with
    | false =>
      rw [hok] at hW d1 p2
      have ha := ask_fail (m := lf + rd) (rd := rd) HO.out.symm p2.symm
      have HASK := Lib.hid ha
      clear ha d0 hya p1 p2 p3 hok hlen
      go_wp2
      refine bodyPost_ret (v := .agg #[.slice none 0 0, .int .i64 10]) (by simp [results, Tryz.results26, go_sem, r0, r1, t0, t1]) rfl ?_
      refine ⟨⟨⟨#[]⟩, false, none, 0, 0, []⟩, 10, lf, rd, rfl, HASK.out, by omega, ?_, .inr rfl, ?_⟩
      · rw [Below.heap_setCell _ _ _ _ (by exact n1), Below.heap_setCell _ _ _ _ (by exact n1)]; exact HGW.out
      · exact ask_grown ((HBW.out.setCell (p := ⟨w.heap.size, 0, none⟩) (Nat.le_refl _) _).setCell (p := ⟨w.heap.size, 1, none⟩) (Nat.le_refl _) _) _
    | true =>
      rw [hok] at hW d1 p2
      by_cases hlim : lf < y.n
      · have ha := ask_limit (m := lf + rd) (rd := rd) HO.out.symm p2.symm (by rw [← p3, hlen]; omega)
        have HASK := Lib.hid ha
        clear ha d0 hya p1 p2 p3 hok hlen
        have t9 : IntKind.i64.wrap (rd + lf) = rd + lf := IntWalk.i64_in _ (by omega)
        go_wp2
        go_region
        all_goals
          go_wp2
          refine bodyPost_ret (v := .agg #[.slice none 0 0, .int .i64 11]) (by simp [results, Tryz.results26, go_sem, r0, r1, t0, t1, n1, n2]) rfl ?_
          refine ⟨⟨⟨#[]⟩, false, none, 0, 0, []⟩, 11, 0, rd + lf, rfl, by rw [HASK.out, Int.add_comm], by omega, ?_, .inr rfl, ?_⟩
          · show (World.setCell _ _ _).heap[g]? = _
            rw [Below.heap_setCell _ _ _ _ (by exact n1), Below.heap_setCell _ _ _ _ (by exact n1)]
            exact guard_set1 (guard_set2 HGW.out _) _
          · exact grown_drewF (grown_set (grown_set (grown_set (grown_set (ask_grown HBW.out g) (.inr rfl)) (.inr rfl)) (.inl (Nat.le_refl _))) (.inl (Nat.le_refl _)))
      · have ha := ask_ok (m := lf + rd) (rd := rd) HO.out.symm p2.symm (by rw [← p3, hlen]; omega)
        rw [← p3, hlen] at ha
        have HASK := Lib.hid ha
        clear ha d0 hya p1 p2 p3 hok hlen
        have t9 : IntKind.i64.wrap (rd + y.n) = rd + y.n := IntWalk.i64_in _ (by omega)
        have t8 : IntKind.i64.wrap (lf - y.n) = lf - y.n := IntWalk.i64_in _ (by omega)
        go_wp2
        refine bodyPost_ret (v := .agg #[.slice y.D y.n y.c, .int .i64 0]) (by simp [results, Tryz.results26, go_sem, r0, r1, t0, t1, n1, n2]) rfl ?_
        refine ⟨y, 0, lf - y.n, rd + y.n, rfl, HASK.out, by omega, ?_, FreshZ.keep (FreshZ.base HFW.out (Nat.le_of_lt HS0.out)) (fun k ds hk => ?_), ?_⟩
        · rw [Below.heap_setCell _ _ _ _ (by exact n1), Below.heap_setCell _ _ _ _ (by exact n1)]
          exact guard_set1 (guard_set2 HGW.out _) _
        · have e1 := keep_set (w := W) (i := 2) (u := .int .i64 (rd + y.n)) HGW.out (by decide) k ds hk
          have e2 := keep_set (w := W) (i := 1) (u := .int .i64 (lf - y.n)) (guard_set2 HGW.out _) (by decide) k ds e1
          have hrk : k ≠ w.heap.size := by rintro rfl; rw [HRW.out] at hk; cases hk
          rw [Below.heap_setCell _ _ _ _ (by exact hrk), Below.heap_setCell _ _ _ _ (by exact hrk)]
          exact e2
        · exact grown_set (grown_set (grown_set (grown_set (ask_grown HBW.out g) (.inr rfl)) (.inr rfl)) (.inl (Nat.le_refl _))) (.inl (Nat.le_refl _))
end Go.Proofs.YtkneafpmgbgalaaGreatDoor
/- A guard's parts in memory. Conditions: at most 2^20 answers, patterns, texts of the trace; each answer of at most 2^20 bytes; limits up to 2^40; internal/bytealg.MaxLen holds an int. -/
namespace Go.Proofs.YtkneafpmgbgalaaGreatDoor
open Go.RowKit Go.Maps Go.Proofs.YtkneafpmgbgalaaGreatDoor.UriPlain
set_option linter.unusedVariables false
set_option linter.unusedSimpArgs false
def tvV (x : An × Int) : Value := .agg #[.slice x.1.D x.1.n x.1.c, .int .i64 x.2]
def zeroTV : Value := .agg #[.slice none 0 0, .int .i64 0]
theorem zeroTold (w : World) : (zeroValue 60).run Tryz.prog w = .ok zeroTV w := by kernel_rfl
def SeenMap (D : DataW Value) (ts : List ByteArray) (vs : List (An × Int)) : Prop := ∀ (k : ByteArray) (zd : DataW Value), D.atKey (.string k.data.toList) zd = match (idxT ts k).bind (fun i => vs[i]?) with | some x => .held (tvV x) | none => zd
theorem SeenMap.nil : SeenMap (.map []) [] [] := fun k zd => rfl
theorem idxT_snoc {ts : List ByteArray} {s k : ByteArray} (h : idxT ts s = none) : idxT (ts ++ [s]) k = if k = s then some ts.length else idxT ts k := by
  unfold idxT at *
  rw [List.findIdx?_append]
  by_cases hk : k = s
  · subst hk
    rw [h, if_pos rfl]; simp
  · rw [if_neg hk]
    cases List.findIdx? (fun x => decide (x = k)) ts with
    | some i => rfl
    | none => simp; exact fun h => hk h.symm
theorem SeenMap.put {D : DataW Value} {ts : List ByteArray} {vs : List (An × Int)} {s : ByteArray} {x : An × Int} (h : SeenMap D ts vs) (hm : IsMap D) (hl : vs.length = ts.length) (hn : idxT ts s = none) : SeenMap (D.put (.string s.data.toList) (.held (tvV x))) (ts ++ [s]) (vs ++ [x]) := by
  intro k zd
  rw [idxT_snoc hn]
  by_cases hk : k = s
  · subst hk
    rw [atKey_put_same hm (show WideAt.IsKeyLit (.string k.data.toList) from trivial), if_pos rfl]
    simp [← hl]
  · rw [atKey_put_other (fun e => hk ?_), h k zd, if_neg hk]
    · cases hi : idxT ts k with
      | none => rfl
      | some i =>
        obtain ⟨hlt, _⟩ := idxT_some hi
        simp only [Option.bind_some]
        rw [List.getElem?_append_left (by omega)]
    · exact Go.WideShapes.bytes_inj (Lit.string.inj e)
/-- A guard's parts. -/
structure GM where
  mf : Int
  lf : Int
  rd : Int
  B : Option Addr
  p : Nat
  d : Nat
  L : List ByteArray
  A : Option Addr
  c : Nat
  ys : List An
  v : Value
  M : Nat
  nM : Nat
  D : DataW Value
  ts : List ByteArray
  vs : List (An × Int)
def GM.st (s : GM) : FS := ⟨s.ts, s.vs.map (fun x => (x.1.da, x.2)), s.rd⟩
structure GuardAt (w : World) (base g : Nat) (s : GM) : Prop where
  blk : w.heap[g]? = some (.cells (guardCells s.mf s.lf s.rd (.slice s.B s.p s.d) (.slice s.A s.ys.length s.c) s.v (.map (some s.M))) 58 (0, 0))
  gbase : base ≤ g
  allow : w.ownsRow base 9 1 (.slice s.B s.p s.d) s.p (txtCells s.L)
  script : AnRow w base (.slice s.A s.ys.length s.c) s.ys
  trace : w.ownsRow base 9 1 s.v s.ts.length (txtCells s.ts)
  apart : s.v.ownBlock = none ∨ s.v.ownBlock ≠ (Value.slice s.B s.p s.d).ownBlock
  map : w.ownsMap Tryz.prog 9 heldV s.M s.nM s.D
  mbase : base ≤ s.M
  mnum : s.nM ≤ s.ts.length
  seen : SeenMap s.D s.ts s.vs
  vlen : s.vs.length = s.ts.length
  fresh : ∀ x ∈ s.vs, FreshZ w base x.1
theorem GuardAt.below {w w' : World} {base g : Nat} {s : GM} (h : GuardAt w base g s) (hb : Below w.heap.size w w') : GuardAt w' base g s :=
  ⟨(hb.block g (Array.getElem?_eq_some_iff.1 h.blk).1).trans h.blk, h.gbase, ownF_below h.allow hb, h.script.below hb, ownF_below h.trace hb, h.apart, mapV_below h.map hb, h.mbase, h.mnum, h.seen, h.vlen, fun x hx => (h.fresh x hx).below hb⟩
/-- All blocks but some stand. -/
structure KeepG (w w' : World) (P : Nat → Prop) : Prop where
  os : w'.os = w.os
  tape : w'.tape = w.tape
  output : w'.output = w.output
  size : w.heap.size ≤ w'.heap.size
  block : ∀ k, k < w.heap.size → ¬ P k → w'.heap[k]? = w.heap[k]?
theorem KeepG.of_grown {w w' : World} {r : Option Nat} (h : w.grownBy w' r) (P : Nat → Prop) (hp : ∀ k, r = some k → k < w.heap.size → P k) : KeepG w w' P :=
  ⟨h.os, h.tape, h.output, h.size, fun k hk hn => h.block k hk (fun e => hn (hp k e.symm hk))⟩
theorem KeepG.of_below {w w' : World} (h : Below w.heap.size w w') (P : Nat → Prop) : KeepG w w' P := ⟨h.os, h.tape, h.output, h.size, fun k hk _ => h.block k hk⟩
theorem KeepG.trans {w w1 w2 : World} {P : Nat → Prop} (h : KeepG w w1 P) (h2 : KeepG w1 w2 P) : KeepG w w2 P :=
  ⟨h2.os.trans h.os, h2.tape.trans h.tape, h2.output.trans h.output, Nat.le_trans h.size h2.size, fun k hk hn => (h2.block k (Nat.lt_of_lt_of_le hk h.size) hn).trans (h.block k hk hn)⟩
theorem KeepG.below {w w' : World} {P : Nat → Prop} {B : Nat} (h : KeepG w w' P) (hB : B ≤ w.heap.size) (hp : ∀ k, P k → B ≤ k) : Below B w w' :=
  ⟨h.os, h.tape, h.output, h.size, fun k hk => h.block k (Nat.lt_of_lt_of_le hk hB) (fun hpk => by have := hp k hpk; omega)⟩
def GM.may (s : GM) (g : Nat) (k : Nat) : Prop := k = g ∨ k = s.M ∨ s.v.ownBlock = some k
/-- Bytes in a block of bytes. -/
def BOwn (w : World) (R : Option Addr) (n : Nat) (da : List Int) : Prop := BytesAt w R n da ∧ ∀ a, R = some a → ∃ cs, w.heap[a.block]? = some (.cells cs 5 (0, 0))
theorem BOwn.keep {w w' : World} {R : Option Addr} {n : Nat} {da : List Int} {P : Nat → Prop} (h : BOwn w R n da) (hk : KeepG w w' P) (hn : ∀ (k : Nat) (cs : Array Value), w.heap[k]? = some (.cells cs 5 (0, 0)) → ¬ P k) : BOwn w' R n da := by
  have hb : ∀ a, R = some a → w'.heap[a.block]? = w.heap[a.block]? := fun a ha => by
    obtain ⟨cs, hc⟩ := h.2 a ha
    exact hk.block _ (Array.getElem?_eq_some_iff.1 hc).1 (hn _ _ hc)
  refine ⟨⟨h.1.1, fun i hi => ?_⟩, fun a ha => by obtain ⟨cs, hc⟩ := h.2 a ha; exact ⟨cs, (hb a ha).trans hc⟩⟩
  obtain ⟨a, x, ha, h1, h2, h3, h4, h5⟩ := h.1.2 i hi
  refine ⟨a, x, ha, h1, h2, h3, Nat.lt_of_lt_of_le h4 hk.size, (World.cell?_of_block ?_).trans h5⟩
  rw [addBlockT]; exact hb a ha
theorem BOwn.below {w w' : World} {R : Option Addr} {n : Nat} {da : List Int} (h : BOwn w R n da) (hb : Below w.heap.size w w') : BOwn w' R n da :=
  ⟨h.1.below hb, fun a ha => by obtain ⟨cs, hc⟩ := h.2 a ha; exact ⟨cs, (hb.block _ (Array.getElem?_eq_some_iff.1 hc).1).trans hc⟩⟩
structure GetTold (w : World) (base g : Nat) (s : GM) (id : ByteArray) (e : Ending) (w' : World) (s' : GM) (R : Option Addr) (n c : Nat) (da : List Int) (er : Int) : Prop where
  ret : e = .returned (.tuple #[.slice R n c, .int .i64 er])
  bytes : BOwn w' R n da
  guard : GuardAt w' base g s'
  plain : getF s.L (s.ys.map An.pl) s.mf (s.lf + s.rd) s.st id = (s'.st, (da, er))
  sum : s'.lf + s'.rd = s.lf + s.rd
  mf : s'.mf = s.mf
  L : s'.L = s.L
  ys : s'.ys = s.ys
  keep : KeepG w w' (s.may g)
  more : ∀ k, s'.may g k → s.may g k ∨ w.heap.size ≤ k
  M : s'.M = s.M
  al : (Value.slice s'.B s'.p s'.d) = .slice s.B s.p s.d
  own : s'.v.ownBlock = s.v.ownBlock ∨ ∃ k, s'.v.ownBlock = some k ∧ w.heap.size ≤ k
  tslen : s'.ts.length ≤ s.ts.length + 1
  shorts : (∀ x ∈ s.vs, x.1.n ≤ 1048576) → ∀ x ∈ s'.vs, x.1.n ≤ 1048576
def GetToldE (base g : Nat) (s : GM) (id : ByteArray) (w : World) (e : Ending) (w' : World) : Prop := ∃ s' R n c da er, GetTold w base g s id e w' s' R n c da er
def TellBytes (da : List Int) (w : World) (e : Ending) (w' : World) : Prop := ∃ R c, e = .returned (.slice R da.length c) ∧ BOwn w' R da.length da ∧ Below w.heap.size w w'
theorem bclone_any (A : Option Addr) (n c : Nat) (da : List Int) (w : World) (hb : BytesAt w A n da) (hn : n ≤ 1048576) :
    Calls Tryz.prog 27 #[.slice A n c] w (TellBytes da w) := by
  obtain rfl := hb.1
  cases A with
  | none =>
    obtain rfl : da = [] := by
      rcases da with _ | ⟨x, da⟩
      · rfl
      · obtain ⟨a, y, hA, _⟩ := hb.2 0 (by simp); cases hA
    refine (Tryz.bytes_Clone_nil _ c w).mono ?_
    rintro e w' ⟨rfl, rfl⟩
    exact ⟨none, 0, rfl, ⟨hb, fun a h => by cases h⟩, Below.refl _ _⟩
  | some a =>
    refine (Tryz.bytes_Clone_at a da.length c da w rfl (by omega) (fun i hi => ?_)).mono ?_
    · obtain ⟨a', x, hA, hx, _, _, _, hc⟩ := hb.2 i hi
      cases hA
      rw [hc, List.getD_eq_getElem?_getD, hx]; rfl
    · rintro e w' ⟨v', rfl, hown, _, hB⟩
      obtain ⟨A2, c2, rfl, _, _⟩ := ownF_shape hown
      exact ⟨A2, c2, rfl, ⟨BytesAt.of_own hown (bytes_range hb), fun a ha => by subst ha; rcases hown.2 with ⟨e, _⟩ | ⟨g, cap, cur, e, _, hh, _⟩ <;> cases e; exact ⟨_, hh⟩⟩, hB⟩
theorem tvBox (w : World) (x : Value) (n : Int) (t : TypeId) : ∃ W, w.alloc (.cells #[x, .int .i64 n] t) = W ∧ Below w.heap.size w W ∧ W.heap[w.heap.size]? = some (.cells #[x, .int .i64 n] t (0, 0)) ∧ w.heap.size < W.heap.size ∧
    W.cell? ⟨w.heap.size, 0, none⟩ = some x ∧ W.cell? ⟨w.heap.size, 1, none⟩ = some (.int .i64 n) :=
  ⟨_, rfl, (Below.refl _ w).alloc (Nat.le_refl _) _, heap_alloc_new w _, by simp, by simp, by simp⟩
theorem below_drewF (B : Nat) (w : World) : Below B w w.drew := (Below.refl B w).trans ⟨rfl, rfl, rfl, Nat.le_refl _, fun _ _ => rfl⟩
theorem findT_ok {L : List ByteArray} {id : ByteArray} (h : findB L id.data.toList = true) : bS (findT L id.data.toList) = nrmA id := by unfold findT nrmA; rw [if_pos h]
theorem txt_len {w : World} {base n : Nat} {v : Value} {l : List ByteArray} (h : w.ownsRow base 9 1 v n (txtCells l)) : l.length = n := by
  have := h.1
  unfold txtCells at this
  rw [List.length_map] at this
  omega
theorem below_drawnF (n : Nat) (w : World) (d : Nat) : Below n w (w.drewN d) := ⟨rfl, rfl, rfl, Nat.le_refl _, fun _ _ => rfl⟩
theorem KeepG.mono {w w' : World} {P Q : Nat → Prop} (h : KeepG w w' P) (hp : ∀ k, k < w.heap.size → P k → Q k) : KeepG w w' Q := ⟨h.os, h.tape, h.output, h.size, fun k hk hn => h.block k hk (fun hpk => hn (hp k hk hpk))⟩
theorem KeepG.set {w W : World} {P : Nat → Prop} (h : KeepG w W P) {b i : Nat} {u : Value} (hb : w.heap.size ≤ b ∨ P b) : KeepG w (W.setCell ⟨b, i, none⟩ u) P :=
  ⟨h.os, h.tape, h.output, by simpa using h.size, fun k hk hn => (Below.heap_setCell _ _ _ k (by
    show k ≠ b
    rintro rfl
    rcases hb with hb | hb
    · omega
    · exact hn hb)).trans (h.block k hk hn)⟩
theorem KeepG.drew {w W : World} {P : Nat → Prop} (h : KeepG w W P) : KeepG w W.drew P := ⟨h.os, h.tape, h.output, h.size, h.block⟩
theorem own_blk {w : World} {base : Nat} {e : TypeId} {size : Nat} {v : Value} {n : Nat} {xs : List Value} (h : w.ownsRow base e size v n xs) {b : Nat} (hb : v.ownBlock = some b) : b < w.heap.size ∧ ∃ cs, w.heap[b]? = some (.cells cs e (0, 0)) := by
  rcases h.2 with ⟨rfl, _⟩ | ⟨g, cap, cur, rfl, _, hh, _⟩
  · cases hb
  · obtain rfl : g = b := by simpa [Value.ownBlock] using hb
    exact ⟨(Array.getElem?_eq_some_iff.1 hh).1, _, hh⟩
theorem own_same {w w' : World} {base : Nat} {e : TypeId} {size : Nat} {v : Value} {n : Nat} {xs : List Value} (h : w.ownsRow base e size v n xs) (hs : ∀ b, v.ownBlock = some b → w'.heap[b]? = w.heap[b]?) : w'.ownsRow base e size v n xs := by
  refine ⟨h.1, ?_⟩
  rcases h.2 with h2 | ⟨g, cap, cur, rfl, hg, hh, r⟩
  · exact .inl h2
  · exact .inr ⟨g, cap, cur, rfl, hg, (hs g rfl).trans hh, r⟩
theorem own_ne {w : World} {base : Nat} {e : TypeId} {size : Nat} {v : Value} {n : Nat} {xs : List Value} (h : w.ownsRow base e size v n xs) {b : Nat} {cs : Array Value} {t : TypeId} (hb : w.heap[b]? = some (.cells cs t (0, 0))) (ht : ¬ t = e) : v.ownBlock ≠ some b := by
  intro hv
  obtain ⟨_, ds, hh⟩ := own_blk h hv
  rw [hb] at hh
  injection hh with hh
  injection hh with _ hh _
  exact ht hh
theorem own_not_map {w : World} {base : Nat} {e : TypeId} {size : Nat} {v : Value} {n : Nat} {xs : List Value} (h : w.ownsRow base e size v n xs) {M k : Nat} {D : DataW Value} (hM : w.ownsMap Tryz.prog 9 heldV M k D) : v.ownBlock ≠ some M := by
  intro hv
  obtain ⟨_, ds, hh⟩ := own_blk h hv
  exact mapV_not_cells hM hh rfl
theorem mapV_same {w w' : World} {b n : Nat} {D : DataW Value} (h : w.ownsMap Tryz.prog 9 heldV b n D) (hb : w'.heap[b]? = w.heap[b]?) : w'.ownsMap Tryz.prog 9 heldV b n D := by
  obtain ⟨es, clock, h1, r⟩ := h
  exact ⟨es, clock, hb.trans h1, r⟩
theorem GuardAt.away {w : World} {base g : Nat} {s : GM} (h : GuardAt w base g s) {x : Nat} {cs : Array Value} (hx : w.heap[x]? = some (.cells cs 60 (0, 0))) {k : Nat} {ds : Array Value} {t : TypeId} (hk : w.heap[k]? = some (.cells ds t (0, 0))) (n1 : ¬ t = 58) (n2 : ¬ t = 9) (n3 : ¬ t = 60) : ¬ (s.may g k ∨ k = x) := by
  rintro ((rfl | rfl | hv) | rfl)
  · rw [h.blk] at hk
    injection hk with hk
    injection hk with _ hk _
    exact n1 hk.symm
  · exact mapV_not_cells h.map hk rfl
  · exact own_ne h.trace hk n2 hv
  · rw [hx] at hk
    injection hk with hk
    injection hk with _ hk _
    exact n3 hk.symm
theorem GuardAt.parts {w w' : World} {base g : Nat} {s : GM} (h : GuardAt w base g s) {x : Nat} {cs : Array Value} (hx : w.heap[x]? = some (.cells cs 60 (0, 0))) (hk : KeepG w w' (fun k => s.may g k ∨ k = x)) :
    w'.ownsRow base 9 1 (.slice s.B s.p s.d) s.p (txtCells s.L) ∧ AnRow w' base (.slice s.A s.ys.length s.c) s.ys ∧ ∀ x ∈ s.vs, FreshZ w' base x.1 := by
  have hu : ∀ (k : Nat) (ds : Array Value), w.heap[k]? = some (.cells ds 5 (0, 0)) → w'.heap[k]? = some (.cells ds 5 (0, 0)) := fun k ds hd => (hk.block k (Array.getElem?_eq_some_iff.1 hd).1 (h.away hx hd (by decide) (by decide) (by decide))).trans hd
  refine ⟨own_same h.allow (fun b hb => ?_), ⟨own_same h.script.1 (fun b hb => ?_), fun y hy => ?_⟩, fun y hy => (h.fresh y hy).keep hu⟩
  · obtain ⟨hlt, ds, hd⟩ := own_blk h.allow hb
    refine hk.block b hlt ?_
    rintro ((rfl | rfl | hv) | rfl)
    · rw [h.blk] at hd; cases hd
    · exact mapV_not_cells h.map hd rfl
    · rcases h.apart with ha | ha
      · rw [ha] at hv; cases hv
      · exact ha (hv.trans hb.symm)
    · rw [hx] at hd; cases hd
  · obtain ⟨hlt, ds, hd⟩ := own_blk h.script.1 hb
    exact hk.block b hlt (h.away hx hd (by decide) (by decide) (by decide))
  · obtain ⟨j, h1, h2, h3, r⟩ := h.script.2 y hy
    exact ⟨j, h1, h2, hu _ _ h3, r⟩
theorem own_base {w : World} {base : Nat} {e : TypeId} {size : Nat} {v : Value} {n : Nat} {xs : List Value} (h : w.ownsRow base e size v n xs) {b : Nat} (hb : v.ownBlock = some b) : base ≤ b := by
  rcases h.2 with ⟨rfl, _⟩ | ⟨g, cap, cur, rfl, hg, hh, _⟩
  · cases hb
  · obtain rfl : g = b := by simpa [Value.ownBlock] using hb
    exact hg
theorem KeepG.cell0 {w w' : World} {P : Nat → Prop} (h : KeepG w w' P) (h0 : ¬ P 0) {v : Value} (hm : w.cell? ⟨0, 0, none⟩ = some v) : w'.cell? ⟨0, 0, none⟩ = some v :=
  (World.cell?_of_block (h.block 0 (World.block_lt_of_cell? _ _ hm) h0)).trans hm
theorem GuardAt.may0 {w : World} {base g : Nat} {s : GM} (h : GuardAt w base g s) (h0 : 0 < base) {x : Nat} (hx : 0 < x) : ¬ (s.may g 0 ∨ 0 = x) := by
  rintro ((rfl | he | hv) | he)
  · have := h.gbase; omega
  · have := h.mbase; omega
  · have := own_base h.trace hv; omega
  · omega
theorem ask_da {ps : List AnP} {m rd : Int} {s : ByteArray} {B : Nat} (hb : ∀ x ∈ ps, x.da.length ≤ B) : (askF ps m rd s).1.length ≤ B := by
  unfold askF
  split
  · exact Nat.zero_le _
  · rename_i a ha
    split
    · exact Nat.zero_le _
    · split
      · exact Nat.zero_le _
      · exact found_da ha hb
theorem guard_set5 {w : World} {g : Nat} {mf lf rd : Int} {a s t m : Value} (h : w.heap[g]? = some (.cells (guardCells mf lf rd a s t m) 58 (0, 0))) (x : Value) :
    (w.setCell ⟨g, 5, none⟩ x).heap[g]? = some (.cells (guardCells mf lf rd a s x m) 58 (0, 0)) := Go.Joins.block_setCell (i := 5) h _
end Go.Proofs.YtkneafpmgbgalaaGreatDoor
