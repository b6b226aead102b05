/- Plain facts on names (no program in sight): a name without a colon has no byte 58. -/
import Derived.Test.YtlifdmehejehjaaDoorPlainA
namespace Go.Proofs.YtlifdmehejehjaaDoor.NamePlain
open Go.Proofs.YtlifdmehejehjaaDoor.UtfPlain Go.Proofs.YtlifdmehejehjaaDoor.CharsPlain
theorem charAt_cand (bs : List Int) (i : Nat) (h : (charAt bs i).2 ≠ 0) : charAt bs i = cand (bs.getD i 0) (rest bs (i + 1)) (rest bs (i + 2)) (rest bs (i + 3)) := by
  unfold charAt charOf at h ⊢
  split at h
  · exact absurd rfl h
  · rename_i h1; rw [if_neg h1]
theorem charAt_cont (bs : List Int) (i k : Nat) (h0 : 0 < k) (hk : k < (charAt bs i).2) : 0 ≤ rest bs (i + k) := by
  rw [charAt_cand bs i (by omega)] at hk
  unfold cand at hk
  split at hk
  · simp at hk; omega
  · split at hk
    · rename_i h1 h2
      have : k = 1 := by simp at hk; omega
      subst this; exact h2.2.2
    · split at hk
      · rename_i h1 h2 h3
        have : k = 1 ∨ k = 2 := by simp at hk; omega
        rcases this with rfl | rfl
        · exact h3.2.2.1
        · exact h3.2.2.2
      · split at hk
        · rename_i h1 h2 h3 h4
          have : k = 1 ∨ k = 2 ∨ k = 3 := by simp at hk; omega
          rcases this with rfl | rfl | rfl
          · exact h4.2.2.1
          · exact h4.2.2.2.1
          · exact h4.2.2.2.2
        · simp at hk
theorem charAt_low (bs : List Int) (i : Nat) (c : Int) (hc : bs[i]? = some c) (h1 : c < 128) (h : (charAt bs i).2 ≠ 0) : (charAt bs i).1 = c := by
  rw [charAt_cand bs i h]
  have e : bs.getD i 0 = c := by rw [List.getD_eq_getElem?_getD, hc]; rfl
  rw [e]
  unfold cand
  rw [if_pos h1]
theorem rest_high (bs : List Int) (i : Nat) (h : 0 ≤ rest bs i) : bs[i]? ≠ some 58 := by
  intro e
  unfold rest at h
  rw [e] at h
  simp at h
theorem endF_no58 (bs : List Int) (f : Nat) : ∀ (first : Bool) (i : Nat), bs.length - i ≤ f → endF bs true f first i = bs.length → ∀ j, i ≤ j → bs[j]? ≠ some 58 := by
  induction f with
  | zero =>
    intro first i hf he j hj
    rw [List.getElem?_eq_none (by omega)]; simp
  | succ f ih =>
    intro first i hf he j hj
    by_cases hi : i < bs.length
    · unfold endF at he
      rw [if_pos hi] at he
      by_cases hc : (charAt bs i).2 = 0 ∨ mayK first true (charAt bs i).1 = false
      · rw [if_pos hc] at he; omega
      · rw [if_neg hc] at he
        have hm : (charAt bs i).2 ≠ 0 := fun e => hc (.inl e)
        rcases Nat.lt_or_ge j (i + (charAt bs i).2) with h | h
        · rcases Nat.eq_or_lt_of_le hj with rfl | hlt
          · intro e58
            have h1 := charAt_low bs i 58 e58 (by omega) hm
            apply hc
            right
            rw [h1]
            unfold mayK
            simp
          · obtain ⟨k, rfl⟩ : ∃ k, j = i + k := ⟨j - i, by omega⟩
            exact rest_high bs _ (charAt_cont bs i k (by omega) (by omega))
        · exact ih false _ (by omega) he j h
    · rw [List.getElem?_eq_none (by omega)]; simp
theorem isN_no58 (bs : List Int) (h : isN bs true = true) : ∀ j : Nat, bs[j]? ≠ some 58 := by
  unfold isN at h
  simp at h
  exact fun j => endF_no58 bs (bs.length - 0) true 0 (Nat.le_refl _) h.2 j (Nat.zero_le _)
end Go.Proofs.YtlifdmehejehjaaDoor.NamePlain
