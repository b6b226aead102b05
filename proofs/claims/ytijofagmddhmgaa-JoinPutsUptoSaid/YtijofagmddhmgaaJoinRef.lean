/- The contract of narthexref37.All: texts that stand side by side are one. Conditions: at most 2^20 events, of at most 2^20 bytes together. -/
import Derived.Test.YtijofagmddhmgaaEvSame
import Derived.OwnWalk
namespace Go.Proofs.Ytijofagmddhmgaa
open Go.RowKit
def evCells (l : List Ev) : List Value := l.flatMap fun e => [.int .i64 e.k, .string e.sp, .string e.lo, .slice e.A e.n e.c, .string e.tx]
theorem evCells_len (l : List Ev) : (evCells l).length = l.length * 5 := by
  induction l with
  | nil => rfl
  | cons e l ih => simp only [evCells, List.flatMap_cons, List.length_append, List.length_cons, List.length_nil] at ih ⊢; omega
theorem evCells_at (l : List Ev) (i : Nat) (e : Ev) (hx : l[i]? = some e) : (evCells l)[i * 5]? = some (.int .i64 e.k) ∧ (evCells l)[i * 5 + 1]? = some (.string e.sp) ∧ (evCells l)[i * 5 + 2]? = some (.string e.lo) ∧ (evCells l)[i * 5 + 3]? = some (.slice e.A e.n e.c) ∧ (evCells l)[i * 5 + 4]? = some (.string e.tx) := by
  induction l generalizing i with
  | nil => simp at hx
  | cons f l ih =>
    cases i with
    | zero => simp at hx; subst hx; simp [evCells]
    | succ i =>
      have h := ih i (by simpa using hx)
      have e1 : (i + 1) * 5 = i * 5 + 1 + 1 + 1 + 1 + 1 := by omega
      simp only [evCells, List.flatMap_cons, List.cons_append, List.nil_append, e1] at h ⊢
      have r : ∀ j, i * 5 + 1 + 1 + 1 + 1 + 1 + j = (i * 5 + j) + 1 + 1 + 1 + 1 + 1 := fun j => by omega
      refine ⟨by simpa using h.1, ?_, ?_, ?_, ?_⟩
      · rw [r 1]; simpa using h.2.1
      · rw [r 2]; simpa using h.2.2.1
      · rw [r 3]; simpa using h.2.2.2.1
      · rw [r 4]; simpa using h.2.2.2.2
theorem evCells_append (l m : List Ev) : evCells (l ++ m) = evCells l ++ evCells m := by simp [evCells]
/-- A row of events of the call's own, read as events. -/
theorem EvsAt.of_own {w : World} {base c : Nat} {T : TypeId} {A : Option Addr} {l : List Ev} (h : w.ownsRow base T 5 (.slice A l.length c) l.length (evCells l)) (hok : ∀ e ∈ l, EvOk w e) : EvsAt w A l.length l := by
  refine ⟨rfl, fun i hi => ?_⟩
  rcases h.2 with ⟨_, h2⟩ | ⟨g, cap, cur, hv, hg, hh, _⟩
  · omega
  · cases hv
    obtain ⟨h0, h1, h2, h3, h4⟩ := evCells_at l i l[i] (List.getElem?_eq_getElem hi)
    have ha : (⟨g, 0, none⟩ : Addr).add (i * 5) = ⟨g, i * 5, none⟩ := by unfold Addr.add; split <;> simp_all
    have hc : ∀ j u, (evCells l)[j]? = some u → w.cell? ⟨g, j, none⟩ = some u := fun j u hj => by
      have := h.cells rfl j u hj
      have ha2 : (⟨g, 0, none⟩ : Addr).add j = ⟨g, j, none⟩ := by unfold Addr.add; split <;> simp_all
      rwa [ha2] at this
    refine ⟨⟨g, 0, none⟩, l[i], rfl, List.getElem?_eq_getElem hi, ?_, hok _ (List.getElem_mem hi)⟩
    rw [ha]
    exact ⟨(h.lt g rfl).2, hc _ _ h0, hc _ _ h1, hc _ _ h2, hc _ _ h3, hc _ _ h4⟩
theorem Try.infoEvent : (Try.prog.info? 31).map (fun i => (i.zero, i.size, i.bytes)) = some (some (.agg #[.int .i64 0, .string ⟨#[]⟩, .string ⟨#[]⟩, .slice none 0 0, .string ⟨#[]⟩]), 5, 80) := by kernel_rfl
def textEv (t : ByteArray) : Ev := ⟨3, ⟨#[]⟩, ⟨#[]⟩, none, 0, 0, t, []⟩
theorem textEv_ok (w : World) (t : ByteArray) : EvOk w (textEv t) := ⟨⟨rfl, fun i hi => by simp [textEv] at hi⟩, Nat.le_refl _, by simp [textEv]⟩
def flushJ (s : List Ev × ByteArray) : List Ev := if s.2 = ⟨#[]⟩ then s.1 else s.1 ++ [textEv s.2]
def stepJ (s : List Ev × ByteArray) (e : Ev) : List Ev × ByteArray := if e.k = 3 then (s.1, s.2 ++ e.tx) else (flushJ s ++ [e], ⟨#[]⟩)
def runJ (l : List Ev) (k : Nat) : List Ev × ByteArray := (l.take k).foldl stepJ ([], ⟨#[]⟩)
/-- All events, texts that stand side by side made one. -/
def allJ (l : List Ev) : List Ev := flushJ (runJ l l.length)
theorem runJ_succ (l : List Ev) (k : Nat) (e : Ev) (h : l[k]? = some e) : runJ l (k + 1) = stepJ (runJ l k) e := by
  unfold runJ; rw [List.take_add_one, h]; simp [List.foldl_append]
theorem flushJ_len (s : List Ev × ByteArray) : (flushJ s).length ≤ s.1.length + 1 := by unfold flushJ; split <;> simp
theorem runJ_len (l : List Ev) (k : Nat) : (runJ l k).1.length ≤ 2 * k := by
  induction k with
  | zero => simp [runJ]
  | succ k ih =>
    cases h : l[k]? with
    | none =>
      have h1 : l.length ≤ k := List.getElem?_eq_none_iff.1 h
      have h2 : runJ l (k + 1) = runJ l k := by unfold runJ; rw [List.take_of_length_le (by omega), List.take_of_length_le h1]
      rw [h2]; omega
    | some e =>
      rw [runJ_succ l k e h]
      unfold stepJ
      split
      · simp only; omega
      · have := flushJ_len (runJ l k); simp only [List.length_append, List.length_cons, List.length_nil]; omega
theorem runJ_size (l : List Ev) (k : Nat) : (runJ l k).2.size ≤ evSum (l.take k) := by
  induction k with
  | zero => exact Nat.zero_le _
  | succ k ih =>
    cases h : l[k]? with
    | none =>
      have h1 : l.length ≤ k := List.getElem?_eq_none_iff.1 h
      have h2 : l.take (k + 1) = l.take k := by rw [List.take_of_length_le (by omega), List.take_of_length_le h1]
      have h3 : runJ l (k + 1) = runJ l k := by unfold runJ; rw [h2]
      rw [h2, h3]; exact ih
    | some e =>
      rw [runJ_succ l k e h]
      have h1 := evSum_take l k e h
      unfold stepJ
      split
      · simp only [ByteArray.size_append]
        have : e.tx.size ≤ e.all := by unfold Ev.all Ev.size; omega
        omega
      · exact Nat.zero_le _
theorem flushJ_ok {w : World} {s : List Ev × ByteArray} (h : ∀ e ∈ s.1, EvOk w e) : ∀ e ∈ flushJ s, EvOk w e := by
  unfold flushJ
  split
  · exact h
  · intro e he
    rcases List.mem_append.1 he with he | he
    · exact h e he
    · simp at he; subst he; exact textEv_ok w _
theorem runJ_ok {w : World} {l : List Ev} (h : ∀ e ∈ l, EvOk w e) (k : Nat) : ∀ e ∈ (runJ l k).1, EvOk w e := by
  induction k with
  | zero => simp [runJ]
  | succ k ih =>
    cases hx : l[k]? with
    | none =>
      have h1 : l.length ≤ k := List.getElem?_eq_none_iff.1 hx
      have h2 : runJ l (k + 1) = runJ l k := by unfold runJ; rw [List.take_of_length_le (by omega), List.take_of_length_le h1]
      rw [h2]; exact ih
    | some f =>
      rw [runJ_succ l k f hx]
      unfold stepJ
      split
      · exact ih
      · intro e he
        rcases List.mem_append.1 he with he | he
        · exact flushJ_ok ih e he
        · simp at he; subst he; exact h e (List.mem_of_getElem? hx)
/-- 'returns a row of those events, and the world only grows'. -/
def TellEvs (l : List Ev) (w : World) (e : Ending) (w' : World) : Prop := ∃ A c, e = .returned (.slice A l.length c) ∧ EvsAt w' A l.length l ∧ l.length ≤ c ∧ c ≤ 9223372036854775807 ∧ Below w.heap.size w w'
end Go.Proofs.Ytijofagmddhmgaa
