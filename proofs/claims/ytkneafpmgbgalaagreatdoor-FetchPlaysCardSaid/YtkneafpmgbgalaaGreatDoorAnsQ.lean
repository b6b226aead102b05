/- What a script tells, told otherwise: by places; normal forms told again; what is there twice. Plain lists; no program in sight. -/
import Derived.Test.YtkneafpmgbgalaaGreatDoorOrFind
namespace Go.Proofs.YtkneafpmgbgalaaGreatDoor
open Go.Proofs.YtkneafpmgbgalaaGreatDoor.UriPlain
set_option linter.unusedVariables false
theorem rec_snoc {α : Type} {p : List α → Prop} (h0 : p []) (h1 : ∀ l a, p l → p (l ++ [a])) (l : List α) : p l := by
  have h : ∀ l : List α, p l.reverse := by
    intro l
    induction l with
    | nil => exact h0
    | cons a l ih => rw [List.reverse_cons]; exact h1 _ _ ih
  have h2 := h l.reverse
  rwa [List.reverse_reverse] at h2
theorem bS_list (l : List UInt8) : (bS l).data.toList = l := by show l.toArray.toList = l; simp
theorem norm_twice {s : ByteArray} (h : errA s = 0) (hs : s.size ≤ 4000) : errA (nrmA s) = 0 ∧ nrmA (nrmA s) = nrmA s := by
  unfold errA at h
  rcases uriE_cases s.data.toList with ⟨_, h2, h3⟩ | h2
  · have hn : normU s.data.toList = textU (uriU s.data.toList) := by unfold normU; rw [if_pos h]
    have hl : s.data.toList.length = s.size := by rw [Array.length_toList]; rfl
    have ht := (text_length _ _ h2).1
    have ha := parse_again _ _ h2
    have e3 : nrmA s = bS (textU (uriU s.data.toList)) := by unfold nrmA; rw [hn]
    generalize uriU s.data.toList = u at *
    have hb : ¬ 4096 < (textU u).length := by omega
    have e1 : uriE (textU u) = 0 := by unfold uriE; rw [if_neg hb, ha]
    have e2 : uriU (textU u) = u := by unfold uriU; rw [if_neg hb, ha]
    unfold errA
    rw [e3, bS_list]
    refine ⟨e1, ?_⟩
    unfold nrmA
    rw [bS_list]
    unfold normU
    rw [if_pos e1, e2]
  · exact absurd h h2
/-- Does an answer speak of an identifier's normal form? -/
def ofA (nm : ByteArray) (a : AnP) : Bool := decide (errA a.id = 0) && decide (nrmA a.id = nm)
theorem putA_mem (l : List AnP) (nm : ByteArray) : (∃ b ∈ putA l, b.id = nm) ↔ ∃ a ∈ l, ofA nm a = true := by
  refine rec_snoc (p := fun l => (∃ b ∈ putA l, b.id = nm) ↔ ∃ a ∈ l, ofA nm a = true) (by simp [putA]) (fun l a ih => ?_) l
  · show (∃ b ∈ putA (l ++ [a]), b.id = nm) ↔ ∃ x ∈ l ++ [a], ofA nm x = true
    rw [putA_snoc]
    unfold stepA
    split
    · rename_i h
      constructor
      · rintro ⟨b, hb, rfl⟩
        rcases List.mem_append.1 hb with hb | hb
        · obtain ⟨x, hx, h2⟩ := ih.1 ⟨b, hb, rfl⟩
          exact ⟨x, List.mem_append_left _ hx, h2⟩
        · simp at hb; subst hb
          exact ⟨a, by simp, by unfold ofA; simp [h.1, canA]⟩
      · rintro ⟨x, hx, h2⟩
        rcases List.mem_append.1 hx with hx | hx
        · obtain ⟨b, hb, e⟩ := ih.2 ⟨x, hx, h2⟩
          exact ⟨b, List.mem_append_left _ hb, e⟩
        · simp at hx; subst hx
          unfold ofA at h2
          rw [Bool.and_eq_true, decide_eq_true_eq, decide_eq_true_eq] at h2
          exact ⟨canA x, by simp, h2.2⟩
    · rename_i h
      rw [ih]
      constructor
      · rintro ⟨x, hx, h2⟩; exact ⟨x, List.mem_append_left _ hx, h2⟩
      · rintro ⟨x, hx, h2⟩
        rcases List.mem_append.1 hx with hx | hx
        · exact ⟨x, hx, h2⟩
        · simp at hx; subst hx
          unfold ofA at h2
          rw [Bool.and_eq_true, decide_eq_true_eq, decide_eq_true_eq] at h2
          have h3 : ∃ b ∈ putA l, b.id = nrmA x.id := by
            apply Classical.byContradiction
            intro h4
            exact h ⟨h2.1, fun b hb e => h4 ⟨b, hb, e⟩⟩
          rw [h2.2] at h3
          exact ih.1 h3
theorem putA_find (l : List AnP) (nm : ByteArray) : (putA l).find? (fun a => decide (a.id = nm)) = (l.find? (ofA nm)).map canA := by
  refine rec_snoc (p := fun l => (putA l).find? (fun a => decide (a.id = nm)) = (l.find? (ofA nm)).map canA) rfl (fun l a ih => ?_) l
  · show (putA (l ++ [a])).find? (fun a => decide (a.id = nm)) = ((l ++ [a]).find? (ofA nm)).map canA
    rw [putA_snoc, List.find?_append]
    unfold stepA
    split
    · rename_i h
      rw [List.find?_append, ih]
      cases hf : l.find? (ofA nm) with
      | some x => simp
      | none =>
        simp only [Option.map_none, Option.none_or]
        by_cases hn : nrmA a.id = nm
        · simp [ofA, h.1, hn, canA]
        · simp [ofA, hn, canA]
    · rename_i h
      rw [ih]
      cases hf : l.find? (ofA nm) with
      | some x => simp
      | none =>
        simp only [Option.map_none, Option.none_or]
        have : ofA nm a = false := by
          cases ho : ofA nm a with
          | false => rfl
          | true =>
            exfalso
            unfold ofA at ho
            rw [Bool.and_eq_true, decide_eq_true_eq, decide_eq_true_eq] at ho
            refine h ⟨ho.1, fun b hb e => ?_⟩
            rw [ho.2] at e
            obtain ⟨x, hx, hx2⟩ := (putA_mem l nm).1 ⟨b, hb, e⟩
            rw [List.find?_eq_none] at hf
            exact hf x hx hx2
        simp [this]
/-- The place of the first that speaks of an identifier. -/
def idxA (l : List AnP) (id : ByteArray) : Option Nat := if errA id = 0 then l.findIdx? (ofA (nrmA id)) else none
def toldA (l : List AnP) (id : ByteArray) : Option AnP := (idxA l id).bind fun i => l[i]?.map fun a => ⟨nrmA id, a.ok, if a.ok then a.da else []⟩
theorem told_found (l : List AnP) (id : ByteArray) : toldA l id = foundA l id := by
  unfold toldA idxA foundA
  split
  · rename_i h
    rw [putA_find]
    cases hf : l.findIdx? (ofA (nrmA id)) with
    | none =>
      rw [List.findIdx?_eq_none_iff] at hf
      rw [List.find?_eq_none.2 (fun x hx => by simp [hf x hx])]; rfl
    | some i =>
      obtain ⟨hi, h1, h2⟩ := List.findIdx?_eq_some_iff_getElem.1 hf
      have hfd : l.find? (ofA (nrmA id)) = some l[i] := by
        rw [List.find?_eq_some_iff_getElem]
        exact ⟨h1, i, hi, rfl, fun j hj => by simpa using h2 j hj⟩
      rw [hfd]
      simp only [Option.bind_some, List.getElem?_eq_getElem hi, Option.map_some]
      congr 1
      unfold ofA at h1
      rw [Bool.and_eq_true, decide_eq_true_eq, decide_eq_true_eq] at h1
      unfold canA
      rw [h1.2]
  · rfl
theorem canA_can {a : AnP} (h : errA a.id = 0) (hs : a.id.size ≤ 4000) : canA (canA a) = canA a := by
  unfold canA
  dsimp only
  rw [(norm_twice h hs).2]
  congr 1
  cases a.ok <;> rfl
theorem put_put (l : List AnP) (hs : ∀ a ∈ l, a.id.size ≤ 4000) : putA (putA l) = putA l := by
  have key : ∀ l : List AnP, (∀ a ∈ l, a.id.size ≤ 4000) → putA (putA l) = putA l := by
    intro l
    refine rec_snoc (p := fun l => (∀ a ∈ l, a.id.size ≤ 4000) → putA (putA l) = putA l) (fun _ => rfl) (fun l a ih => ?_) l
    · intro hs
      have ih := ih (fun x hx => hs x (List.mem_append_left _ hx))
      rw [putA_snoc]
      by_cases h : errA a.id = 0 ∧ ∀ b ∈ putA l, b.id ≠ nrmA a.id
      · have h1 : stepA (putA l) a = putA l ++ [canA a] := by unfold stepA; rw [if_pos h]
        have ht := norm_twice h.1 (hs a (by simp))
        have hc : (canA a).id = nrmA a.id := rfl
        rw [h1, putA_snoc, ih]
        unfold stepA
        rw [if_pos ⟨by rw [hc]; exact ht.1, by rw [hc, ht.2]; exact h.2⟩, canA_can h.1 (hs a (by simp))]
      · have h1 : stepA (putA l) a = putA l := by unfold stepA; rw [if_neg h]
        rw [h1, ih]
  exact key l hs
theorem found_put (l : List AnP) (id : ByteArray) (hs : ∀ a ∈ l, a.id.size ≤ 4000) : foundA (putA l) id = foundA l id := by
  unfold foundA
  rw [put_put l hs]
/-- Is an answer there already? -/
def dupA (l : List AnP) (i : Nat) : Bool := match l[i]? with | some a => decide (errA a.id = 0) && (l.take i).any (ofA (nrmA a.id)) | none => false
def checkA (l : List AnP) : Int := if 256 < l.length then 13 else if (List.range l.length).any (dupA l) then 12 else 0
theorem check_big {l : List AnP} (h : 256 < l.length) : checkA l = 13 := by unfold checkA; rw [if_pos h]
theorem check_dup {l : List AnP} {i : Nat} (h : ¬ 256 < l.length) (hi : i < l.length) (hd : dupA l i = true) : checkA l = 12 := by
  unfold checkA; rw [if_neg h, if_pos (List.any_eq_true.2 ⟨i, List.mem_range.2 hi, hd⟩)]
theorem check_ok {l : List AnP} (h : ¬ 256 < l.length) (hd : ∀ i, i < l.length → dupA l i = false) : checkA l = 0 := by
  unfold checkA
  rw [if_neg h, if_neg]
  rw [List.any_eq_true]
  rintro ⟨i, hi, h2⟩
  rw [hd i (List.mem_range.1 hi)] at h2; cases h2
/-- The normal forms that were seen. -/
def seenA (l : List AnP) (k : Nat) : List ByteArray := ((l.take k).filter fun a => decide (errA a.id = 0)).map fun a => nrmA a.id
theorem seenA_yes {l : List AnP} {k : Nat} {a : AnP} (hx : l[k]? = some a) (h : errA a.id = 0) : seenA l (k + 1) = seenA l k ++ [nrmA a.id] := by
  unfold seenA; rw [List.take_add_one, hx, List.filter_append, List.map_append]; simp [h]
theorem seenA_no {l : List AnP} {k : Nat} {a : AnP} (hx : l[k]? = some a) (h : ¬ errA a.id = 0) : seenA l (k + 1) = seenA l k := by
  unfold seenA; rw [List.take_add_one, hx, List.filter_append, List.map_append]; simp [h]
theorem seenA_len (l : List AnP) (k : Nat) : (seenA l k).length ≤ k := by
  unfold seenA
  rw [List.length_map]
  have h1 := List.length_filter_le (fun a : AnP => decide (errA a.id = 0)) (l.take k)
  rw [List.length_take] at h1; omega
theorem seen_dup {l : List AnP} {k : Nat} {a : AnP} (hx : l[k]? = some a) (h : errA a.id = 0) : cntM (seenA l k) (nrmA a.id) = 0 ↔ dupA l k = false := by
  rw [cntM_zero]
  unfold dupA seenA
  rw [hx]
  simp only [h, decide_true, Bool.true_and]
  rw [List.any_eq_false]
  constructor
  · intro h1 b hb ho
    unfold ofA at ho
    rw [Bool.and_eq_true, decide_eq_true_eq, decide_eq_true_eq] at ho
    exact h1 _ (List.mem_map.2 ⟨b, List.mem_filter.2 ⟨hb, by simp [ho.1]⟩, rfl⟩) ho.2
  · intro h1 y hy e
    obtain ⟨b, hb, rfl⟩ := List.mem_map.1 hy
    obtain ⟨hb1, hb2⟩ := List.mem_filter.1 hb
    exact h1 b hb1 (by unfold ofA; rw [Bool.and_eq_true]; exact ⟨hb2, decide_eq_true e⟩)
theorem dup_err {l : List AnP} {k : Nat} {a : AnP} (hx : l[k]? = some a) (h : ¬ errA a.id = 0) : dupA l k = false := by
  unfold dupA; rw [hx]; simp [h]
/-- The reference's word: the first place is before this one. -/
theorem idx_dup {l : List AnP} {k : Nat} {a : AnP} (hx : l[k]? = some a) : (∃ i, idxA l a.id = some i ∧ i < k) ↔ dupA l k = true := by
  unfold dupA idxA
  rw [hx]
  by_cases h : errA a.id = 0
  · simp only [h, if_true, decide_true, Bool.true_and]
    rw [List.any_eq_true]
    constructor
    · rintro ⟨i, hi, hik⟩
      obtain ⟨h1, h2, _⟩ := List.findIdx?_eq_some_iff_getElem.1 hi
      exact ⟨l[i], List.mem_iff_getElem?.2 ⟨i, by rw [List.getElem?_take, if_pos hik]; exact List.getElem?_eq_getElem h1⟩, h2⟩
    · rintro ⟨b, hb, ho⟩
      obtain ⟨i, hi⟩ := List.mem_iff_getElem?.1 hb
      rw [List.getElem?_take] at hi
      split at hi
      · rename_i hik
        cases hf : l.findIdx? (ofA (nrmA a.id)) with
        | none =>
          rw [List.findIdx?_eq_none_iff] at hf
          have := hf b (List.mem_of_getElem? hi)
          rw [ho] at this; cases this
        | some j =>
          refine ⟨j, rfl, ?_⟩
          obtain ⟨h1, h2, h3⟩ := List.findIdx?_eq_some_iff_getElem.1 hf
          rcases Nat.lt_or_ge j k with h4 | h4
          · exact h4
          · exfalso
            have := h3 i (by omega)
            have hh := (List.getElem?_eq_some_iff.1 hi)
            rw [hh.2] at this
            exact this ho
      · cases hi
  · simp [h]
/-- .. and it is this one. -/
theorem idx_here {l : List AnP} {k : Nat} {a : AnP} (hx : l[k]? = some a) : idxA l a.id = some k ↔ (errA a.id = 0 ∧ ∀ b ∈ putA (l.take k), b.id ≠ nrmA a.id) := by
  have hk := (List.getElem?_eq_some_iff.1 hx).1
  have hk2 := (List.getElem?_eq_some_iff.1 hx).2
  unfold idxA
  by_cases h : errA a.id = 0
  · rw [if_pos h, List.findIdx?_eq_some_iff_getElem]
    constructor
    · rintro ⟨h1, h2, h3⟩
      refine ⟨h, fun b hb e => ?_⟩
      obtain ⟨x, hx1, hx2⟩ := (putA_mem (l.take k) (nrmA a.id)).1 ⟨b, hb, e⟩
      obtain ⟨i, hi⟩ := List.mem_iff_getElem?.1 hx1
      rw [List.getElem?_take] at hi
      split at hi
      · rename_i hik
        have := h3 i hik
        rw [(List.getElem?_eq_some_iff.1 hi).2] at this
        exact this hx2
      · cases hi
    · rintro ⟨_, h2⟩
      refine ⟨hk, by rw [hk2]; unfold ofA; simp [h], fun j hj ho => ?_⟩
      obtain ⟨b, hb, e⟩ := (putA_mem (l.take k) (nrmA a.id)).2 ⟨l[j], List.mem_iff_getElem?.2 ⟨j, by rw [List.getElem?_take, if_pos hj]; exact List.getElem?_eq_getElem (by omega)⟩, ho⟩
      exact h2 b hb e
  · rw [if_neg h]
    exact ⟨fun h9 => absurd h9 (by simp), fun h2 => absurd h2.1 h⟩
theorem told_here {l : List AnP} {k : Nat} {a : AnP} (hx : l[k]? = some a) (h : idxA l a.id = some k) : toldA l a.id = some (canA a) := by
  unfold toldA
  rw [h, Option.bind_some, hx]; rfl
end Go.Proofs.YtkneafpmgbgalaaGreatDoor
