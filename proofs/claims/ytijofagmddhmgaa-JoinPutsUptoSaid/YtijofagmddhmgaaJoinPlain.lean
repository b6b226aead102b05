/- Plain facts on joined texts: to join again turns nothing; rows that are the same are joined to the same. -/
import Derived.Test.YtijofagmddhmgaaJoinAll
namespace Go.Proofs.Ytijofagmddhmgaa
open Go.RowKit
def runA (l : List Ev) : List Ev × ByteArray := l.foldl stepJ ([], ⟨#[]⟩)
theorem allJ_run (l : List Ev) : allJ l = flushJ (runA l) := by unfold allJ runJ runA; rw [List.take_length]
theorem runA_app (l : List Ev) (e : Ev) : runA (l ++ [e]) = stepJ (runA l) e := by unfold runA; simp [List.foldl_append]
theorem empty_app (t : ByteArray) : (⟨#[]⟩ : ByteArray) ++ t = t := by
  apply Go.WideShapes.bytes_inj
  rw [ByteArray.data_append, Array.toList_append]
  rfl
theorem fold_norm (l : List Ev) : ∀ s : List Ev × ByteArray, runA s.1 = (s.1, ⟨#[]⟩) → runA (l.foldl stepJ s).1 = ((l.foldl stepJ s).1, ⟨#[]⟩) := by
  induction l with
  | nil => exact fun s h => h
  | cons e l ih =>
    intro s h
    rw [List.foldl_cons]
    refine ih _ ?_
    by_cases hk : e.k = 3
    · have : stepJ s e = (s.1, s.2 ++ e.tx) := if_pos hk
      rw [this]; exact h
    · have hs : stepJ s e = (flushJ s ++ [e], ⟨#[]⟩) := if_neg hk
      rw [hs]
      show runA (flushJ s ++ [e]) = (flushJ s ++ [e], ⟨#[]⟩)
      rw [runA_app]
      by_cases ht : s.2 = ⟨#[]⟩
      · have hf : flushJ s = s.1 := if_pos ht
        rw [hf, h]
        unfold stepJ; rw [if_neg hk]; unfold flushJ; simp
      · have hf : flushJ s = s.1 ++ [textEv s.2] := if_neg ht
        rw [hf, runA_app, h]
        have h1 : stepJ (s.1, ⟨#[]⟩) (textEv s.2) = (s.1, s.2) := by unfold stepJ textEv; simp only [if_true]; rw [empty_app]
        rw [h1]
        unfold stepJ; rw [if_neg hk]; unfold flushJ; simp only [if_neg ht]
theorem allJ_idem (l : List Ev) : allJ (allJ l) = allJ l := by
  have h : runA (runA l).1 = ((runA l).1, ⟨#[]⟩) := fold_norm l ([], ⟨#[]⟩) rfl
  rw [allJ_run l]
  generalize runA l = s at *
  by_cases ht : s.2 = ⟨#[]⟩
  · have hf : flushJ s = s.1 := if_pos ht
    rw [hf, allJ_run, h]; unfold flushJ; simp
  · have hf : flushJ s = s.1 ++ [textEv s.2] := if_neg ht
    rw [hf, allJ_run, runA_app, h]
    have h1 : stepJ (s.1, ⟨#[]⟩) (textEv s.2) = (s.1, s.2) := by unfold stepJ textEv; simp only [if_true]; rw [empty_app]
    rw [h1]; unfold flushJ; simp only [if_neg ht]
theorem same_flush {s u : List Ev × ByteArray} (h1 : sameEvs s.1 u.1 = true) (h2 : s.2 = u.2) : sameEvs (flushJ s) (flushJ u) = true := by
  unfold flushJ
  rw [h2]
  split
  · exact h1
  · exact sameEvs_app h1 (by unfold sameEv; simp)
theorem same_fold (l m : List Ev) : ∀ s u : List Ev × ByteArray, sameEvs l m = true → sameEvs s.1 u.1 = true → s.2 = u.2 → sameEvs (l.foldl stepJ s).1 (m.foldl stepJ u).1 = true ∧ (l.foldl stepJ s).2 = (m.foldl stepJ u).2 := by
  induction l generalizing m with
  | nil =>
    intro s u h h1 h2
    cases m with
    | nil => exact ⟨h1, h2⟩
    | cons f m => simp [sameEvs] at h
  | cons e l ih =>
    intro s u h h1 h2
    cases m with
    | nil => simp [sameEvs] at h
    | cons f m =>
      simp only [sameEvs, Bool.and_eq_true] at h
      rw [List.foldl_cons, List.foldl_cons]
      have he := h.1
      unfold sameEv at he
      have he := of_decide_eq_true he
      refine ih m _ _ h.2 ?_ ?_
      · unfold stepJ
        rw [← he.1]
        split
        · exact h1
        · exact sameEvs_app (same_flush h1 h2) h.1
      · unfold stepJ
        rw [← he.1, ← he.2.2.1, h2]
        split <;> rfl
theorem same_all {l m : List Ev} (h : sameEvs l m = true) : sameEvs (allJ l) (allJ m) = true := by
  rw [allJ_run, allJ_run]
  have := same_fold l m ([], ⟨#[]⟩) ([], ⟨#[]⟩) h rfl rfl
  exact same_flush this.1 this.2
theorem sameEvs_symm {l m : List Ev} (h : sameEvs l m = true) : sameEvs m l = true := by
  have h1 := (sameEvs_iff l m).1 h
  exact (sameEvs_iff m l).2 ⟨h1.1.symm, fun i e f hx hy => sameEv_symm (h1.2 i f e hy hx)⟩
theorem sameEv_trans {e f g : Ev} (h : sameEv e f = true) (h2 : sameEv f g = true) : sameEv e g = true := by
  unfold sameEv at *
  have a := of_decide_eq_true h
  have b := of_decide_eq_true h2
  exact decide_eq_true ⟨a.1.trans b.1, ⟨a.2.1.1.trans b.2.1.1, a.2.1.2.trans b.2.1.2⟩, a.2.2.1.trans b.2.2.1, a.2.2.2.trans b.2.2.2⟩
theorem sameEvs_trans {l m o : List Ev} (h : sameEvs l m = true) (h2 : sameEvs m o = true) : sameEvs l o = true := by
  have a := (sameEvs_iff l m).1 h
  have b := (sameEvs_iff m o).1 h2
  refine (sameEvs_iff l o).2 ⟨a.1.trans b.1, fun i e g hx hz => ?_⟩
  have hi : i < m.length := by rw [← a.1]; exact (List.getElem?_eq_some_iff.1 hx).1
  exact sameEv_trans (a.2 i e m[i] hx (List.getElem?_eq_getElem hi)) (b.2 i m[i] g (List.getElem?_eq_getElem hi) hz)
/-- What was joined, joined again. -/
theorem same_again {outs outs2 l : List Ev} (h : sameEvs outs (allJ l) = true) (h2 : sameEvs outs2 (allJ outs) = true) : sameEvs outs2 outs = true := by
  have h3 := same_all h
  rw [allJ_idem] at h3
  exact sameEvs_trans (sameEvs_trans h2 h3) (sameEvs_symm h)
def evM (e : Ev) : Nat := e.size + e.ats.length
def sumM (l : List Ev) : Nat := (l.map evM).sum
theorem sumM_app (l : List Ev) (e : Ev) : sumM (l ++ [e]) = sumM l + evM e := by unfold sumM; simp
theorem sumM_flush (s : List Ev × ByteArray) : sumM (flushJ s) ≤ sumM s.1 + s.2.size := by
  unfold flushJ
  split
  · omega
  · rw [sumM_app]
    have : evM (textEv s.2) = s.2.size := by show 0 + 0 + s.2.size + 0 + 0 = _; omega
    omega
theorem sumM_fold (l : List Ev) : ∀ s : List Ev × ByteArray, sumM (l.foldl stepJ s).1 + (l.foldl stepJ s).2.size ≤ sumM s.1 + s.2.size + sumM l := by
  induction l with
  | nil => intro s; simp [sumM]
  | cons e l ih =>
    intro s
    rw [List.foldl_cons]
    have h := ih (stepJ s e)
    have h2 : sumM (e :: l) = evM e + sumM l := by simp [sumM]
    have h3 : sumM (stepJ s e).1 + (stepJ s e).2.size ≤ sumM s.1 + s.2.size + evM e := by
      unfold stepJ
      split
      · simp only [ByteArray.size_append]; unfold evM Ev.size; omega
      · have := sumM_flush s
        simp only [sumM_app]
        show _ + 0 ≤ _
        omega
    omega
theorem sumM_all (l : List Ev) : sumM (allJ l) ≤ sumM l := by
  rw [allJ_run]
  have h1 := sumM_fold l ([], ⟨#[]⟩)
  have h2 := sumM_flush (runA l)
  have h3 : sumM (([], ⟨#[]⟩) : List Ev × ByteArray).1 + (([], ⟨#[]⟩) : List Ev × ByteArray).2.size + sumM l = sumM l := by show 0 + 0 + _ = _; omega
  unfold runA at h2 ⊢
  omega
theorem sumM_same {l m : List Ev} (h : sameEvs l m = true) : sumM l = sumM m := by
  induction l generalizing m with
  | nil => cases m with
    | nil => rfl
    | cons f m => simp [sameEvs] at h
  | cons e l ih => cases m with
    | nil => simp [sameEvs] at h
    | cons f m =>
      simp only [sameEvs, Bool.and_eq_true] at h
      have he := h.1
      unfold sameEv at he
      have he := of_decide_eq_true he
      have h1 := ih h.2
      have h2 : evM e = evM f := by unfold evM Ev.size; rw [he.2.1.1, he.2.1.2, he.2.2.1, he.2.2.2]
      simp only [sumM, List.map_cons, List.sum_cons] at h1 ⊢
      omega
theorem sumM_ok {w : World} {l : List Ev} (h : ∀ e ∈ l, EvOk w e) : evSum l = sumM l := by
  unfold evSum sumM
  congr 1
  refine List.map_congr_left fun e he => ?_
  unfold Ev.all evM
  rw [(h e he).1.1]
end Go.Proofs.Ytijofagmddhmgaa
