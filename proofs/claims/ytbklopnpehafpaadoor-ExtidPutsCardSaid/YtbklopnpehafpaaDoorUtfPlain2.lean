/- More plain facts: the bytes of characters are read as them, and what is read has its own bytes. -/
import Derived.Test.YtbklopnpehafpaaDoorPlainA
namespace Go.Proofs.YtbklopnpehafpaaDoor.UtfPlain
theorem idx (pre ys : List Int) (k : Nat) : (pre ++ ys)[pre.length + k]? = ys[k]? := by
  rw [List.getElem?_append_right (by omega)]; congr 1; omega
theorem rest_app (pre ys : List Int) (k : Nat) : rest (pre ++ ys) (pre.length + k) = rest ys k := by unfold rest; rw [idx]
theorem rest_cons (y : Int) (ys : List Int) (k : Nat) : rest (y :: ys) (k + 1) = rest ys k := by unfold rest; rw [List.getElem?_cons_succ]
theorem rest_head (y : Int) (ys : List Int) (h : 128 ≤ y ∧ y ≤ 191) : rest (y :: ys) 0 = y - 128 := by unfold rest; simp [h]
/-- A character's bytes are read as it, wherever they lie. -/
theorem charAt_app (pre post : List Int) (r : Int) (h : isR r = true) : charAt (pre ++ (encL r ++ post)) pre.length = (r, sizeR r) := by
  have hb : 0 ≤ r ∧ r ≤ 1114111 := by simp only [isR, decide_eq_true_eq] at h; omega
  have key : cand ((pre ++ (encL r ++ post)).getD pre.length 0) (rest (pre ++ (encL r ++ post)) (pre.length + 1)) (rest (pre ++ (encL r ++ post)) (pre.length + 2)) (rest (pre ++ (encL r ++ post)) (pre.length + 3)) = (r, sizeR r) := by
    rw [rest_app, rest_app, rest_app, List.getD_eq_getElem?_getD, show (pre ++ (encL r ++ post))[pre.length]? = (encL r ++ post)[0]? from idx pre _ 0]
    have hc : (r < 128) ∨ (128 ≤ r ∧ r < 2048) ∨ (2048 ≤ r ∧ r < 65536) ∨ (65536 ≤ r) := by omega
    rcases hc with k | ⟨k, k2⟩ | ⟨k, k2⟩ | k
    · have e : encL r = [r] := by unfold encL; rw [if_pos k]
      have s : sizeR r = 1 := by unfold sizeR; rw [if_pos k]
      rw [e, s]
      show cand r _ _ _ = _
      unfold cand; rw [if_pos k]
    · have e : encL r = [192 + r / 64, 128 + r % 64] := by unfold encL; rw [if_neg (by omega), if_pos k2]
      have s : sizeR r = 2 := by unfold sizeR; rw [if_neg (by omega), if_pos k2]
      rw [e, s]
      simp only [List.cons_append, List.nil_append]
      rw [show rest ((192 + r / 64) :: (128 + r % 64) :: post) 1 = 128 + r % 64 - 128 by rw [rest_cons, rest_head _ _ (by omega)]]
      show cand (192 + r / 64) _ _ _ = _
      unfold cand; rw [if_neg (by omega), if_pos (by omega)]
      refine Prod.ext ?_ rfl
      show _ = r; simp only; omega
    · have e : encL r = [224 + r / 4096, 128 + r / 64 % 64, 128 + r % 64] := by unfold encL; rw [if_neg (by omega), if_neg (by omega), if_pos k2]
      have s : sizeR r = 3 := by unfold sizeR; rw [if_neg (by omega), if_neg (by omega), if_pos k2]
      rw [e, s]
      simp only [List.cons_append, List.nil_append]
      rw [show rest ((224 + r / 4096) :: (128 + r / 64 % 64) :: (128 + r % 64) :: post) 1 = 128 + r / 64 % 64 - 128 by rw [rest_cons, rest_head _ _ (by omega)],
        show rest ((224 + r / 4096) :: (128 + r / 64 % 64) :: (128 + r % 64) :: post) 2 = 128 + r % 64 - 128 by rw [rest_cons, rest_cons, rest_head _ _ (by omega)]]
      show cand (224 + r / 4096) _ _ _ = _
      unfold cand; rw [if_neg (by omega), if_neg (by omega), if_pos (by omega)]
      refine Prod.ext ?_ rfl
      show _ = r; simp only; omega
    · have e : encL r = [240 + r / 262144, 128 + r / 4096 % 64, 128 + r / 64 % 64, 128 + r % 64] := by unfold encL; rw [if_neg (by omega), if_neg (by omega), if_neg (by omega)]
      have s : sizeR r = 4 := by unfold sizeR; rw [if_neg (by omega), if_neg (by omega), if_neg (by omega)]
      rw [e, s]
      simp only [List.cons_append, List.nil_append]
      rw [show rest ((240 + r / 262144) :: (128 + r / 4096 % 64) :: (128 + r / 64 % 64) :: (128 + r % 64) :: post) 1 = 128 + r / 4096 % 64 - 128 by rw [rest_cons, rest_head _ _ (by omega)],
        show rest ((240 + r / 262144) :: (128 + r / 4096 % 64) :: (128 + r / 64 % 64) :: (128 + r % 64) :: post) 2 = 128 + r / 64 % 64 - 128 by rw [rest_cons, rest_cons, rest_head _ _ (by omega)],
        show rest ((240 + r / 262144) :: (128 + r / 4096 % 64) :: (128 + r / 64 % 64) :: (128 + r % 64) :: post) 3 = 128 + r % 64 - 128 by rw [rest_cons, rest_cons, rest_cons, rest_head _ _ (by omega)]]
      show cand (240 + r / 262144) _ _ _ = _
      unfold cand; rw [if_neg (by omega), if_neg (by omega), if_neg (by omega), if_pos (by omega)]
      refine Prod.ext ?_ rfl
      show _ = r; simp only; omega
  unfold charAt charOf
  rw [key, if_neg]
  have := sizeR_b r
  simp [h]; omega
/-- All characters of the bytes of characters. -/
theorem scan_enc (l : List Int) (hl : ∀ r ∈ l, isR r = true) (pre : List Int) : scan (pre ++ l.flatMap encL) ((pre ++ l.flatMap encL).length - pre.length) pre.length = (l, none) := by
  induction l generalizing pre with
  | nil => rw [scan_end _ _ _ (by simp)]
  | cons r l ih =>
    have hr := hl r (by simp)
    have hs := sizeR_b r
    have he := encL_length r
    have hc : charAt (pre ++ (r :: l).flatMap encL) pre.length = (r, sizeR r) := by rw [List.flatMap_cons]; exact charAt_app pre _ r hr
    rw [scan_ok _ _ (by simp [he]; omega) (by rw [hc]; simp; omega), hc]
    have h2 := ih (fun x hx => hl x (by simp [hx])) (pre ++ encL r)
    simp only [List.flatMap_cons, ← List.append_assoc] at h2 ⊢
    rw [List.length_append (as := pre) (bs := encL r), he] at h2
    simp only [h2]
theorem runes_enc (l : List Int) (hl : ∀ r ∈ l, isR r = true) : runes (l.flatMap encL) = (l, none) := by
  have := scan_enc l hl []
  simpa [runes] using this
theorem rest_inv (bs : List Int) (i : Nat) (h : 0 ≤ rest bs i) : bs[i]? = some (rest bs i + 128) ∧ rest bs i ≤ 63 := by
  unfold rest at *
  split at h
  · rename_i b hb
    by_cases hc : 128 ≤ b ∧ b ≤ 191
    · rw [if_pos hc, hb]; refine ⟨by congr 1; omega, by omega⟩
    · rw [if_neg hc] at h; omega
  · omega
/-- A character that is read has its own bytes. -/
theorem charAt_inv (bs : List Int) (i : Nat) (h : (charAt bs i).2 ≠ 0) (hi : i < bs.length) : ∀ k, k < (charAt bs i).2 → bs[i + k]? = (encL (charAt bs i).1)[k]? := by
  obtain ⟨h1, h2⟩ := charOf_isR _ _ _ _ h
  have hq : charAt bs i = cand (bs.getD i 0) (rest bs (i + 1)) (rest bs (i + 2)) (rest bs (i + 3)) := by
    unfold charAt charOf at h ⊢
    split at h
    · exact absurd rfl h
    · rename_i h2; rw [if_neg h2]
  have h1' : isR (charAt bs i).1 = true := h1
  have h2' : sizeR (charAt bs i).1 = (charAt bs i).2 := h2
  clear h1 h2
  have hg : bs[i]? = some (bs.getD i 0) := by rw [List.getD_eq_getElem?_getD, List.getElem?_eq_getElem hi]; rfl
  have x1 := rest_inv bs (i + 1)
  have x2 := rest_inv bs (i + 2)
  have x3 := rest_inv bs (i + 3)
  generalize bs.getD i 0 = c at *
  generalize rest bs (i + 1) = x at *
  generalize rest bs (i + 2) = y at *
  generalize rest bs (i + 3) = z at *
  generalize charAt bs i = p at *
  subst hq
  have hr : 0 ≤ (cand c x y z).1 ∧ (cand c x y z).1 ≤ 1114111 := by simp only [isR, decide_eq_true_eq] at h1'; omega
  clear h1'
  unfold cand at *
  split at h
  · rename_i k1
    rw [if_pos k1] at h2' hr ⊢
    intro k hk
    have : k = 0 := by simp at hk; omega
    subst this
    unfold encL; rw [if_pos k1]; exact hg
  · rename_i k1
    rw [if_neg k1] at h2' hr ⊢
    split at h
    · rename_i k2
      rw [if_pos k2] at h2' hr ⊢
      simp only at h2' hr ⊢
      have hx := x1 k2.2.2
      have e : encL ((c - 192) * 64 + x) = [c, x + 128] := by
        unfold sizeR at h2'
        unfold encL
        split at h2'
        · omega
        · rename_i q1
          split at h2'
          · rename_i q2; rw [if_neg q1, if_pos q2]; simp only [List.cons.injEq, and_true]; omega
          · split at h2' <;> omega
      rw [e]
      intro k hk
      have : k = 0 ∨ k = 1 := by omega
      rcases this with rfl | rfl
      · exact hg
      · exact hx.1
    · rename_i k2
      rw [if_neg k2] at h2' hr ⊢
      split at h
      · rename_i k3
        rw [if_pos k3] at h2' hr ⊢
        simp only at h2' hr ⊢
        have hx := x1 k3.2.2.1
        have hy := x2 k3.2.2.2
        have e : encL (((c - 224) * 64 + x) * 64 + y) = [c, x + 128, y + 128] := by
          unfold sizeR at h2'
          unfold encL
          split at h2'
          · omega
          · rename_i q1
            split at h2'
            · omega
            · rename_i q2
              split at h2'
              · rename_i q3; rw [if_neg q1, if_neg q2, if_pos q3]; simp only [List.cons.injEq, and_true]; omega
              · omega
        rw [e]
        intro k hk
        have : k = 0 ∨ k = 1 ∨ k = 2 := by omega
        rcases this with rfl | rfl | rfl
        · exact hg
        · exact hx.1
        · exact hy.1
      · rename_i k3
        rw [if_neg k3] at h2' hr ⊢
        split at h
        · rename_i k4
          rw [if_pos k4] at h2' hr ⊢
          simp only at h2' hr ⊢
          have hx := x1 k4.2.2.1
          have hy := x2 k4.2.2.2.1
          have hz := x3 k4.2.2.2.2
          have e : encL ((((c - 240) * 64 + x) * 64 + y) * 64 + z) = [c, x + 128, y + 128, z + 128] := by
            unfold sizeR at h2'
            unfold encL
            split at h2'
            · omega
            · rename_i q1
              split at h2'
              · omega
              · rename_i q2
                split at h2'
                · omega
                · rename_i q3; rw [if_neg q1, if_neg q2, if_neg q3]; simp only [List.cons.injEq, and_true]; omega
          rw [e]
          intro k hk
          have : k = 0 ∨ k = 1 ∨ k = 2 ∨ k = 3 := by omega
          rcases this with rfl | rfl | rfl | rfl
          · exact hg
          · exact hx.1
          · exact hy.1
          · exact hz.1
        · exact absurd rfl h
theorem scan_inv (bs : List Int) (f i : Nat) (hf : bs.length - i ≤ f) (h : (scan bs f i).2 = none) : (∀ r ∈ (scan bs f i).1, isR r = true) ∧ (scan bs f i).1.flatMap encL = bs.drop i := by
  induction f generalizing i with
  | zero => rw [scan_end bs 0 i (by omega), List.drop_of_length_le (by omega)]; simp
  | succ f ih =>
    by_cases hi : i < bs.length
    · by_cases hc : (charAt bs i).2 = 0
      · rw [scan_bad bs _ i (by omega) hi hc] at h; cases h
      · have e : scan bs (f + 1) i = ((charAt bs i).1 :: (scan bs f (i + (charAt bs i).2)).1, (scan bs f (i + (charAt bs i).2)).2) := by
          conv => lhs; unfold scan
          rw [if_pos hi, if_neg hc]
        rw [e] at h ⊢
        obtain ⟨h1, h2⟩ := ih (i + (charAt bs i).2) (by omega) h
        have hr := charOf_isR _ _ _ _ hc
        refine ⟨?_, ?_⟩
        · intro r hm
          rcases List.mem_cons.1 hm with rfl | hm
          · exact hr.1
          · exact h1 r hm
        · rw [List.flatMap_cons, h2]
          have hin := charAt_in bs i hi
          have hinv := charAt_inv bs i hc hi
          have hl : (encL (charAt bs i).1).length = (charAt bs i).2 := by rw [encL_length]; exact hr.2
          apply List.ext_getElem?
          intro k
          rw [List.getElem?_drop]
          by_cases hk : k < (charAt bs i).2
          · rw [List.getElem?_append_left (by omega), hinv k hk]
          · rw [List.getElem?_append_right (by omega), List.getElem?_drop, hl]
            congr 1; omega
    · rw [scan_end bs _ i (by omega), List.drop_of_length_le (by omega)]; simp
theorem runes_inv (bs : List Int) (h : (runes bs).2 = none) : (∀ r ∈ (runes bs).1, isR r = true) ∧ (runes bs).1.flatMap encL = bs := by
  have := scan_inv bs bs.length 0 (by omega) h
  simpa [runes] using this
end Go.Proofs.YtbklopnpehafpaaDoor.UtfPlain
