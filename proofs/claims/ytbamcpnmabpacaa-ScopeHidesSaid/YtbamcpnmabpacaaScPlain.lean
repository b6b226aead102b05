/- What the program's scope and the document's answer tell is the same: plain lists. -/
import Derived.Test.YtbamcpnmabpacaaScRAll
import Derived.Sort.Walk0
namespace Go.Proofs.Ytbamcpnmabpacaa
open Go.RowKit
set_option linter.unusedVariables false
theorem bound_eq (fs : List (List Bd)) (x : ByteArray) : boundF fs x = (fs.flatMap List.reverse).find? fun b => decide (b.p = x) := by
  induction fs with
  | nil => rfl
  | cons f fs ih =>
    rw [List.flatMap_cons, List.find?_append, ← ih]
    rfl
theorem spR_eq (x : ByteArray) (bs : List Bd) : spR x bs = ((bs.reverse.find? fun b => decide (b.p = x)).map Bd.s).getD ⟨#[]⟩ := by
  refine rec_snocS (p := fun bs => spR x bs = ((bs.reverse.find? fun b => decide (b.p = x)).map Bd.s).getD ⟨#[]⟩) rfl (fun l b ih => ?_) bs
  rw [spR_snoc, List.reverse_append, List.reverse_cons, List.reverse_nil, List.nil_append, List.singleton_append, List.find?_cons]
  by_cases h : b.p = x
  · rw [if_pos h]; simp [h]
  · rw [if_neg h, ih]; simp [h]
theorem flat_rev (ls : List (List Bd)) : ls.reverse.flatMap List.reverse = ls.flatten.reverse := by
  rw [List.reverse_flatten, List.flatMap_def, List.map_reverse]
theorem mean_eq (ls : List (List Bd)) (x : ByteArray) : meanF ls.reverse x = spR x ls.flatten := by
  unfold meanF
  rw [bound_eq, flat_rev, spR_eq]
def ltB (a b : Bd) : Prop := keyS a.p < keyS b.p
theorem ltP_key (a b : ByteArray) : ltP a b = decide (keyS a < keyS b) := by
  unfold ltP keyS
  rw [Go.Proofs.bytesLess_eq, ByteArray.toList_eq, ByteArray.toList_eq]
theorem key_inj {a b : ByteArray} (h : keyS a = keyS b) : a = b := by rw [← bsS_key a, h, bsS_key]
theorem ltB_tr (a b c : Bd) (h1 : ltB a b) (h2 : ltB b c) : ltB a c := ltS_trans _ _ _ h1 h2
theorem ltB_irr (a : Bd) : ¬ ltB a a := ltS_irr _
theorem tw_gen {α : Type} (q : α → Bool) (l : List α) : (∀ b ∈ l.take (l.takeWhile q).length, q b = true) ∧ ∀ b, l[(l.takeWhile q).length]? = some b → q b = false := by
  induction l with
  | nil => simp
  | cons a l ih =>
    cases h : q a with
    | false => simp [h]
    | true =>
      simp only [List.takeWhile_cons, h, if_true, List.length_cons, List.take_succ_cons, List.mem_cons, List.getElem?_cons_succ]
      exact ⟨fun b hb => by
        rcases hb with e | e
        · subst e; exact h
        · exact ih.1 b e, ih.2⟩
theorem tw_all (out : List Bd) (p : ByteArray) : ∀ b ∈ out.take (atR out p), keyS b.p < keyS p := by
  intro b hb
  have := (tw_gen (fun b : Bd => ltP b.p p) out).1 b hb
  rw [ltP_key] at this
  simpa using this
theorem tw_head (out : List Bd) (p : ByteArray) {b : Bd} (hb : out[atR out p]? = some b) : ¬ keyS b.p < keyS p := by
  have := (tw_gen (fun b : Bd => ltP b.p p) out).2 b hb
  rw [ltP_key] at this
  simpa using this
theorem insR_spec {out : List Bd} (p m : ByteArray) (h : out.Pairwise ltB) : (insR out p m).Pairwise ltB ∧ ∀ x, x ∈ insR out p m ↔ x ∈ out ∨ ((∀ y ∈ out, ¬ y.p = p) ∧ x = ⟨p, m⟩) := by
  have e : out = out.take (atR out p) ++ out.drop (atR out p) := (List.take_append_drop _ _).symm
  have h1 := tw_all out p
  have hd : ∀ y ∈ out.drop (atR out p), keyS p < keyS y.p ∨ (out[atR out p]?).map Bd.p = some p := by
    intro y hy
    cases hg : out[atR out p]? with
    | none =>
      rw [List.getElem?_eq_none_iff] at hg
      rw [List.drop_eq_nil_of_le hg] at hy
      cases hy
    | some b =>
      have h2 := tw_head out p hg
      obtain ⟨hlt, he⟩ := List.getElem?_eq_some_iff.1 hg
      by_cases hbp : b.p = p
      · exact .inr (by simp [hbp])
      · have h3 : keyS p < keyS b.p := ltS_of (List.not_lt.1 h2) (fun e => hbp (key_inj e).symm)
        rw [List.drop_eq_getElem_cons hlt, he] at hy
        rcases List.mem_cons.1 hy with e | e
        · subst e; exact .inl h3
        · refine .inl (ltS_trans _ _ _ h3 ?_)
          have hp : (out.drop (atR out p)).Pairwise ltB := h.drop
          rw [List.drop_eq_getElem_cons hlt, he, List.pairwise_cons] at hp
          exact hp.1 y e
  unfold insR
  by_cases hc : (out[atR out p]?).map Bd.p = some p
  · rw [if_pos hc]
    refine ⟨h, fun x => ⟨.inl, ?_⟩⟩
    rintro (hx | ⟨hx, _⟩)
    · exact hx
    · cases hg : out[atR out p]? with
      | none => rw [hg] at hc; cases hc
      | some b => rw [hg] at hc; simp at hc; exact absurd hc (hx b (List.mem_of_getElem? hg))
  · rw [if_neg hc]
    have hd2 : ∀ y ∈ out.drop (atR out p), keyS p < keyS y.p := fun y hy => (hd y hy).resolve_right hc
    have hno : ∀ y ∈ out, ¬ y.p = p := by
      intro y hy hyp
      rw [e] at hy
      rcases List.mem_append.1 hy with hy | hy
      · have := h1 y hy; rw [hyp] at this; exact ltS_irr _ this
      · have := hd2 y hy; rw [hyp] at this; exact ltS_irr _ this
    refine ⟨?_, fun x => ?_⟩
    · rw [List.pairwise_append]
      refine ⟨h.take, ?_, ?_⟩
      · rw [List.pairwise_cons]
        exact ⟨fun y hy => hd2 y hy, h.drop⟩
      · intro a ha b hb
        rcases List.mem_cons.1 hb with hb | hb
        · subst hb; exact h1 a ha
        · exact ltS_trans _ _ _ (h1 a ha) (hd2 b hb)
    · have hm : x ∈ out ↔ x ∈ out.take (atR out p) ∨ x ∈ out.drop (atR out p) := by
        conv => lhs; rw [e]
        exact List.mem_append
      rw [List.mem_append, List.mem_cons, hm]
      constructor
      · rintro (h | h | h)
        · exact .inl (.inl h)
        · exact .inr ⟨hno, h⟩
        · exact .inl (.inr h)
      · rintro ((h | h) | ⟨_, h⟩)
        · exact .inl h
        · exact .inr (.inr h)
        · exact .inr (.inl h)
theorem allR_spec (bs : List Bd) (l : List Bd) : (allR bs l).Pairwise ltB ∧ ∀ x, x ∈ allR bs l ↔ (∃ b ∈ l, okP b = true ∧ b.p = x.p) ∧ ¬ spR x.p bs = ⟨#[]⟩ ∧ x.s = spR x.p bs := by
  refine rec_snocS (p := fun l => (allR bs l).Pairwise ltB ∧ ∀ x, x ∈ allR bs l ↔ (∃ b ∈ l, okP b = true ∧ b.p = x.p) ∧ ¬ spR x.p bs = ⟨#[]⟩ ∧ x.s = spR x.p bs) ⟨by simp [allR], fun x => by simp [allR]⟩ (fun l b ih => ?_) l
  rw [allR_snoc]
  obtain ⟨i1, i2⟩ := ih
  unfold stepR
  by_cases hc : okP b = false ∨ spR b.p bs = ⟨#[]⟩
  · rw [if_pos hc]
    refine ⟨i1, fun x => ?_⟩
    rw [i2]
    constructor
    · rintro ⟨⟨y, hy, h⟩, r⟩
      exact ⟨⟨y, List.mem_append_left _ hy, h⟩, r⟩
    · rintro ⟨⟨y, hy, h⟩, r⟩
      rcases List.mem_append.1 hy with hy | hy
      · exact ⟨⟨y, hy, h⟩, r⟩
      · obtain rfl : y = b := by simpa using hy
        rcases hc with hc | hc
        · rw [h.1] at hc; cases hc
        · rw [h.2] at hc; exact absurd hc r.1
  · rw [if_neg hc]
    simp only [not_or, Bool.not_eq_false] at hc
    obtain ⟨s1, s2⟩ := insR_spec b.p (spR b.p bs) i1
    refine ⟨s1, fun x => ?_⟩
    rw [s2, i2]
    constructor
    · rintro (⟨⟨y, hy, h⟩, r⟩ | ⟨_, rfl⟩)
      · exact ⟨⟨y, List.mem_append_left _ hy, h⟩, r⟩
      · exact ⟨⟨b, by simp, hc.1, rfl⟩, hc.2, rfl⟩
    · rintro ⟨⟨y, hy, h⟩, r⟩
      rcases List.mem_append.1 hy with hy | hy
      · exact .inl ⟨⟨y, hy, h⟩, r⟩
      · obtain rfl : y = b := by simpa using hy
        by_cases hex : ∃ z ∈ l, okP z = true ∧ z.p = x.p
        · exact .inl ⟨hex, r⟩
        · refine .inr ⟨fun z hz hzp => ?_, ?_⟩
          · obtain ⟨⟨t, ht, ht2⟩, _⟩ := (i2 z).1 hz
            exact hex ⟨t, ht, ht2.1, ht2.2.trans (hzp.trans h.2)⟩
          · cases x with
            | mk xp xs =>
              simp only at h r ⊢
              rw [h.2, r.2]
theorem meansF_spec (fs : List (List Bd)) : (allF fs).Pairwise ltB ∧ ∀ x, x ∈ allF fs ↔ (∃ b ∈ fs.flatten, okP b = true ∧ b.p = x.p) ∧ ¬ meanF fs x.p = ⟨#[]⟩ ∧ x.s = meanF fs x.p := by
  obtain ⟨u1, u2⟩ := sorted_compactS ((namesF fs).map keyS)
  have hmem : ∀ x : ByteArray, x ∈ namesF fs ↔ ∃ b ∈ fs.flatten, okP b = true ∧ b.p = x := by
    intro x
    unfold namesF namesL
    simp only [List.mem_flatMap, List.mem_map, List.mem_filter, List.mem_flatten]
    constructor
    · rintro ⟨f, hf, b, ⟨hb, hk⟩, rfl⟩; exact ⟨b, ⟨f, hf, hb⟩, hk, rfl⟩
    · rintro ⟨b, ⟨f, hf, hb⟩, hk, rfl⟩; exact ⟨f, hf, b, ⟨hb, hk⟩, rfl⟩
  have hans : ∀ x : ByteArray, (∃ b ∈ fs.flatten, okP b = true ∧ b.p = x) → (ansF (meanF fs x) x).1 = meanF fs x := by
    rintro x ⟨b, _, hk, rfl⟩
    exact ans_ok (by rw [← okP_p]; exact hk)
  unfold allF meansF uniqF
  refine ⟨?_, fun x => ?_⟩
  · rw [List.pairwise_filterMap]
    refine u1.imp (fun {a b} hab x hx y hy => ?_)
    split at hx
    · cases hx
    · split at hy
      · cases hy
      · cases hx; cases hy
        unfold ltB
        rw [key_bsS, key_bsS]; exact hab
  · rw [List.mem_filterMap]
    constructor
    · rintro ⟨n, hn, hx⟩
      rw [u2, List.mem_map] at hn
      obtain ⟨y, hy, rfl⟩ := hn
      rw [bsS_key] at hx
      have hy2 := (hmem y).1 hy
      rw [hans y hy2] at hx
      split at hx
      · cases hx
      · rename_i hne
        cases hx
        exact ⟨hy2, hne, rfl⟩
    · rintro ⟨h1, h2, h3⟩
      refine ⟨keyS x.p, (u2 _).2 (List.mem_map.2 ⟨x.p, (hmem x.p).2 h1, rfl⟩), ?_⟩
      rw [bsS_key, hans x.p h1, if_neg h2]
      cases x with
      | mk xp xs => simp only at h3 ⊢; rw [h3]
theorem all_eq (ls : List (List Bd)) : allF ls.reverse = allR ls.flatten ls.flatten := by
  obtain ⟨a1, a2⟩ := meansF_spec ls.reverse
  obtain ⟨b1, b2⟩ := allR_spec ls.flatten ls.flatten
  refine strict_extS ltB ltB_irr ltB_tr _ _ a1 b1 fun x => ?_
  rw [a2, b2, mean_eq]
  have : ∀ b : Bd, b ∈ ls.reverse.flatten ↔ b ∈ ls.flatten := fun b => by simp [List.mem_flatten]
  simp only [this]
end Go.Proofs.Ytbamcpnmabpacaa
