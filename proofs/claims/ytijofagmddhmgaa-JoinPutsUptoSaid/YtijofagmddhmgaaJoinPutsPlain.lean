/- Plain facts on what is told of joined events, as long as fewer than q were told (no program in sight). -/
import Derived.Test.YtijofagmddhmgaaJoinPutOut
import Derived.Test.YtijofagmddhmgaaJoinAlls
namespace Go.Proofs.Ytijofagmddhmgaa
open Go.RowKit
theorem flushJ_pre (s : List Ev × ByteArray) : s.1 <+: flushJ s := by
  unfold flushJ
  split
  · exact List.prefix_rfl
  · exact List.prefix_append _ _
theorem stepJ_pre (s : List Ev × ByteArray) (e : Ev) : s.1 <+: (stepJ s e).1 := by
  unfold stepJ
  split
  · exact List.prefix_rfl
  · exact (flushJ_pre s).trans (List.prefix_append _ _)
theorem foldJ_pre (l : List Ev) : ∀ s : List Ev × ByteArray, s.1 <+: (l.foldl stepJ s).1 := by
  induction l with
  | nil => exact fun s => List.prefix_rfl
  | cons e l ih => exact fun s => (stepJ_pre s e).trans (ih _)
theorem runJ_pre (l : List Ev) (k : Nat) : (runJ l k).1 <+: allJ l := by
  have h : runJ l l.length = (l.drop k).foldl stepJ (runJ l k) := by
    unfold runJ
    rw [List.take_length, ← List.foldl_append, List.take_append_drop]
  unfold allJ
  rw [h]
  exact (foldJ_pre _ _).trans (flushJ_pre _)
theorem told_take {ms m : List Ev} {x : Ev} {q : Nat} (hp : ms ++ [x] <+: m) (hl : ms.length = q) : ms = m.take q ∧ q < m.length := by
  obtain ⟨r, rfl⟩ := hp
  subst hl
  refine ⟨?_, ?_⟩
  · rw [List.append_assoc, List.take_left]
  · simp only [List.length_append, List.length_cons, List.length_nil]; omega
/-- What is known behind k puts: all that was to be told was told; or the limit was met. -/
def PutS (q : Nat) (l : List Ev) (k : Nat) (r : Int × List Ev × ByteArray) : Prop :=
  (r.1 = 0 ∧ r.2 = runJ l k ∧ r.2.1.length ≤ q) ∨ (r.1 = 11 ∧ r.2.1 = (allJ l).take q ∧ q < (allJ l).length)
theorem flushR_put (q : Nat) (s : List Ev × ByteArray) (h : s.1.length ≤ q) :
    (flushR (ansPut q) s.1 s.2 = (0, flushJ s) ∧ (flushJ s).length ≤ q) ∨ (flushR (ansPut q) s.1 s.2 = (11, s.1) ∧ s.1.length = q ∧ flushJ s = s.1 ++ [textEv s.2]) := by
  unfold flushR flushJ
  by_cases h0 : s.2 = ⟨#[]⟩
  · rw [if_pos h0, if_pos h0]; exact .inl ⟨rfl, h⟩
  · rw [if_neg h0, if_neg h0]
    unfold ansPut
    by_cases hq : q ≤ s.1.length
    · rw [if_pos hq]; exact .inr ⟨rfl, by omega, rfl⟩
    · rw [if_neg hq]; exact .inl ⟨rfl, by simp only [List.length_append, List.length_cons, List.length_nil]; omega⟩
theorem putS_step (q : Nat) (l : List Ev) (k : Nat) (s : List Ev × ByteArray) (e : Ev) (hx : l[k]? = some e) (hs : s = runJ l k) (hq : s.1.length ≤ q) : PutS q l (k + 1) (putR (ansPut q) s.1 s.2 e) := by
  have hstep := runJ_succ l k e hx
  rw [← hs] at hstep
  have hpre := runJ_pre l (k + 1)
  rw [hstep] at hpre
  by_cases hk : e.k = 3
  · have F : putR (ansPut q) s.1 s.2 e = (0, s.1, s.2 ++ e.tx) := if_pos hk
    rw [F]
    exact .inl ⟨rfl, by rw [hstep]; unfold stepJ; rw [if_pos hk], hq⟩
  · have hS : stepJ s e = (flushJ s ++ [e], ⟨#[]⟩) := if_neg hk
    rw [hS] at hpre hstep
    unfold putR
    rw [if_neg hk]
    rcases flushR_put q s hq with ⟨hf, hl⟩ | ⟨hf, hl, hfl⟩
    · rw [hf]
      simp only [if_true]
      unfold ansPut
      by_cases hg : q ≤ (flushJ s).length
      · rw [if_pos hg]
        have := told_take hpre (show (flushJ s).length = q by omega)
        exact .inr ⟨rfl, this.1, this.2⟩
      · rw [if_neg hg]
        exact .inl ⟨rfl, hstep.symm, by simp only [List.length_append, List.length_cons, List.length_nil]; omega⟩
    · rw [hf]
      rw [if_neg (by simp)]
      rw [hfl] at hpre
      have := told_take ((List.prefix_append (s.1 ++ [textEv s.2]) [e]).trans hpre) hl
      exact .inr ⟨rfl, this.1, this.2⟩
theorem putS_end (q : Nat) (l : List Ev) (s : List Ev × ByteArray) (hs : s = runJ l l.length) (hq : s.1.length ≤ q) :
    (flushR (ansPut q) s.1 s.2 = (0, allJ l) ∧ (allJ l).length ≤ q) ∨ (flushR (ansPut q) s.1 s.2 = (11, (allJ l).take q) ∧ q < (allJ l).length) := by
  have hall : allJ l = flushJ s := by rw [hs]; rfl
  rcases flushR_put q s hq with ⟨hf, hl⟩ | ⟨hf, hl, hfl⟩
  · rw [hall]; exact .inl ⟨hf, hl⟩
  · have := told_take (show s.1 ++ [textEv s.2] <+: allJ l by rw [hall, hfl]; exact List.prefix_rfl) hl
    rw [← this.1]
    exact .inr ⟨hf, this.2⟩
end Go.Proofs.Ytijofagmddhmgaa
