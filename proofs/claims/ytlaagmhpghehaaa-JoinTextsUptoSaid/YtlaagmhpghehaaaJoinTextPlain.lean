/- Plain facts on the texts of joined events: the same bytes, none empty, no two side by side. -/
import Derived.Test.YtlaagmhpghehaaaJoinPlain
namespace Go.Proofs.Ytlaagmhpghehaaa
open Go.RowKit
def addT (t : ByteArray) (e : Ev) : ByteArray := if e.k = 3 then t ++ e.tx else t
def catT (l : List Ev) : ByteArray := l.foldl addT ⟨#[]⟩
theorem catT_app (l : List Ev) (e : Ev) : catT (l ++ [e]) = addT (catT l) e := by unfold catT; simp [List.foldl_append]
theorem app_empty (t : ByteArray) : t ++ (⟨#[]⟩ : ByteArray) = t := by
  apply Go.WideShapes.bytes_inj
  rw [ByteArray.data_append, Array.toList_append]
  simp
theorem app_assoc (a b c : ByteArray) : (a ++ b) ++ c = a ++ (b ++ c) := by
  apply Go.WideShapes.bytes_inj
  simp [ByteArray.data_append, Array.toList_append]
theorem catT_flush (s : List Ev × ByteArray) : catT (flushJ s) = catT s.1 ++ s.2 := by
  unfold flushJ
  split
  · rename_i h; rw [h, app_empty]
  · rw [catT_app]; unfold addT textEv; simp
theorem catT_fold (l : List Ev) : ∀ (s : List Ev × ByteArray) (c : ByteArray), catT s.1 ++ s.2 = c → catT (l.foldl stepJ s).1 ++ (l.foldl stepJ s).2 = l.foldl addT c := by
  induction l with
  | nil => exact fun s c h => h
  | cons e l ih =>
    intro s c h
    rw [List.foldl_cons, List.foldl_cons]
    refine ih _ _ ?_
    unfold stepJ addT
    by_cases hk : e.k = 3
    · rw [if_pos hk, if_pos hk]
      show catT s.1 ++ (s.2 ++ e.tx) = _
      rw [← app_assoc, h]
    · rw [if_neg hk, if_neg hk]
      show catT (flushJ s ++ [e]) ++ _ = _
      rw [catT_app, app_empty]
      unfold addT
      rw [if_neg hk, catT_flush, h]
theorem catT_all (l : List Ev) : catT (allJ l) = catT l := by
  rw [allJ_run, catT_flush]
  exact catT_fold l ([], ⟨#[]⟩) ⟨#[]⟩ (app_empty _)
/-- No text is empty, and none stands behind a text. -/
def Fine (m : List Ev) : Prop := ∀ (i : Nat) (e : Ev), m[i]? = some e → e.k = 3 → ¬ e.tx = ⟨#[]⟩ ∧ ∀ f, 0 < i → m[i - 1]? = some f → ¬ f.k = 3
def EndsNon (m : List Ev) : Prop := ∀ f, m[m.length - 1]? = some f → ¬ f.k = 3
theorem fine_app {m : List Ev} {e : Ev} (h : Fine m) (he : e.k = 3 → ¬ e.tx = ⟨#[]⟩ ∧ EndsNon m) : Fine (m ++ [e]) := by
  intro i f hf hk
  rcases Nat.lt_or_ge i m.length with hi | hi
  · rw [List.getElem?_append_left hi] at hf
    refine ⟨(h i f hf hk).1, fun g h0 hg => ?_⟩
    rw [List.getElem?_append_left (by omega)] at hg
    exact (h i f hf hk).2 g h0 hg
  · have hl : i = m.length := by
      have := (List.getElem?_eq_some_iff.1 hf).1
      simp at this; omega
    subst hl
    rw [List.getElem?_append_right (Nat.le_refl _)] at hf
    simp at hf
    subst hf
    refine ⟨(he hk).1, fun g h0 hg => ?_⟩
    rw [List.getElem?_append_left (by omega)] at hg
    exact (he hk).2 g hg
theorem endsNon_app {m : List Ev} {e : Ev} (he : ¬ e.k = 3) : EndsNon (m ++ [e]) := by
  intro f hf
  have : (m ++ [e]).length - 1 = m.length := by simp
  rw [this, List.getElem?_append_right (Nat.le_refl _)] at hf
  simp at hf
  subst hf
  exact he
theorem fine_flush {s : List Ev × ByteArray} (h : Fine s.1 ∧ EndsNon s.1) : Fine (flushJ s) := by
  unfold flushJ
  split
  · exact h.1
  · rename_i ht; exact fine_app h.1 fun _ => ⟨ht, h.2⟩
theorem fine_fold (l : List Ev) : ∀ s : List Ev × ByteArray, Fine s.1 ∧ EndsNon s.1 → Fine (l.foldl stepJ s).1 ∧ EndsNon (l.foldl stepJ s).1 := by
  induction l with
  | nil => exact fun s h => h
  | cons e l ih =>
    intro s h
    rw [List.foldl_cons]
    refine ih _ ?_
    unfold stepJ
    by_cases hk : e.k = 3
    · rw [if_pos hk]; exact h
    · rw [if_neg hk]; exact ⟨fine_app (fine_flush h) fun h' => absurd h' hk, endsNon_app hk⟩
theorem fine_all (l : List Ev) : Fine (allJ l) := by
  rw [allJ_run]
  exact fine_flush (fine_fold l ([], ⟨#[]⟩) ⟨fun i e h => by simp at h, fun f h => by simp at h⟩)
/-- Rows that are the same have the same texts. -/
theorem catT_same (l m : List Ev) : ∀ c, sameEvs l m = true → l.foldl addT c = m.foldl addT c := by
  induction l generalizing m with
  | nil => intro c h; cases m with
    | nil => rfl
    | cons f m => simp [sameEvs] at h
  | cons e l ih => intro c h; cases m with
    | nil => simp [sameEvs] at h
    | cons f m =>
      simp only [sameEvs, Bool.and_eq_true] at h
      have he := h.1
      unfold sameEv at he
      have he := of_decide_eq_true he
      rw [List.foldl_cons, List.foldl_cons]
      have : addT c e = addT c f := by unfold addT; rw [he.1, he.2.2.1]
      rw [this]
      exact ih m _ h.2
theorem fine_same {l m : List Ev} (h : sameEvs l m = true) (hm : Fine m) : Fine l := by
  have hh := (sameEvs_iff l m).1 h
  intro i e hx hk
  have hi := (List.getElem?_eq_some_iff.1 hx).1
  have hy : m[i]? = some (m[i]'(by omega)) := List.getElem?_eq_getElem (by omega)
  have s1 := of_decide_eq_true (by have := hh.2 i e _ hx hy; unfold sameEv at this; exact this)
  have h1 := hm i _ hy (by rw [← s1.1]; exact hk)
  refine ⟨by rw [s1.2.2.1]; exact h1.1, fun f h0 hf => ?_⟩
  have hz : m[i - 1]? = some (m[i - 1]'(by omega)) := List.getElem?_eq_getElem (by omega)
  have s2 := of_decide_eq_true (by have := hh.2 (i - 1) f _ hf hz; unfold sameEv at this; exact this)
  rw [s2.1]
  exact h1.2 _ h0 hz
end Go.Proofs.Ytlaagmhpghehaaa
