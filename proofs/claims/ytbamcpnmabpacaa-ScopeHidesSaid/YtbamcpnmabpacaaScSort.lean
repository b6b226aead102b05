/- slices.Sort and slices.Compact at a row of texts of the call's own; what a strictly rising row's members tell. Conditions: lengths below 2^62. -/
import Derived.Test.YtbamcpnmabpacaaScPush
import Derived.Test.YtbamcpnmabpacaaShelf
import Derived.Sort.OwnSorted
import Derived.Lib.OwnBridge
namespace Go.Proofs.Ytbamcpnmabpacaa
set_option linter.unusedVariables false
open Go Go.RowKit Go.Sort
def txtS (l : List ByteArray) : List Value := l.map Value.string
def keyS (x : ByteArray) : List UInt8 := x.data.toList
theorem encS (l : List ByteArray) : txtS l = (l.map keyS).map encStr := by
  unfold txtS keyS encStr
  rw [List.map_map]
  refine List.map_congr_left fun x _ => ?_
  simp
theorem sortOwnS (A : Option Addr) (c base : Nat) (l : List (List UInt8)) (w : World) (h : w.ownsRow base 9 1 (.slice A l.length c) l.length (l.map encStr)) (hl : l.length < 4611686018427387904) (hb : base ≤ w.heap.size) :
    Calls Try.prog 19 #[.slice A l.length c] w fun e w' => e = .returned (.tuple #[]) ∧ w'.ownsRow base 9 1 (.slice A l.length c) l.length ((l.mergeSort fun x y => decide (x ≤ y)).map encStr) ∧ w.grownBy w' (Value.slice A l.length c).ownBlock := by
  rcases h.2 with ⟨e, hn⟩ | ⟨g, cap, cur, e, hg, hh, hle, hm, hcs, ht⟩
  · have hnil : l = [] := List.eq_nil_of_length_eq_zero hn
    subst hnil
    have := Try.slices_Sort_string_none A c w
    refine Calls.mono this fun e' w' ⟨h1, h2⟩ => ⟨h1, ?_, ?_⟩
    · rw [h2]; simpa using h
    · rw [h2]; exact ⟨rfl, rfl, rfl, Nat.le_refl _, fun _ _ _ => rfl⟩
  · cases e
    have hH : Holds encStr w g 0 l.toArray := holds_of_block hh (by rw [Nat.mul_one] at ht; exact ht)
    have hlen : (l.mergeSort fun x y => decide (x ≤ y)).length = l.length := List.length_mergeSort l
    refine (Try.slices_Sort_string g 0 c l w hH (Array.getElem?_eq_some_iff.1 hh).1 hl).mono fun e' w' ⟨h1, n, os, h2⟩ => ⟨h1, ?_, ?_⟩
    · rw [h2]
      exact ownsRow_sorted hlen hg hh hle hm hcs
    · rw [h2]; exact grownBy_sorted _
theorem compactOwnS (A : Option Addr) (c base : Nat) (l : List (List UInt8)) (w : World) (h : w.ownsRow base 9 1 (.slice A l.length c) l.length (l.map encStr)) (hl : l.length ≤ 9223372036854775807) :
    Calls Try.prog 20 #[.slice A l.length c] w fun e w' => e = .returned (.slice A (Lib.compact l).length c) ∧ w'.ownsRow base 9 1 (.slice A (Lib.compact l).length c) (Lib.compact l).length ((Lib.compact l).map encStr) ∧ w.grownBy w' (Value.slice A l.length c).ownBlock := by
  rcases h.2 with ⟨e, hn⟩ | ⟨g, cap, cur, e, hg, hh, hle, hm, hcs, ht⟩
  · have hnil : l = [] := List.eq_nil_of_length_eq_zero hn
    subst hnil
    have := Try.slices_Compact_string_empty A c w
    refine Calls.mono this fun e' w' ⟨h1, h2⟩ => ⟨h1, ?_, ?_⟩
    · rw [h2]; exact h
    · rw [h2]; exact ⟨rfl, rfl, rfl, Nat.le_refl _, fun _ _ _ => rfl⟩
  · cases e
    have hH : Holds encStr w g 0 l.toArray := holds_of_block hh (by rw [Nat.mul_one] at ht; exact ht)
    have hcl := Lib.compact_length_le l
    refine (Try.slices_Compact_string g 0 c l w hH hl hle).mono fun e' w' ⟨h1, q, h2⟩ => ⟨h1, ?_, ?_⟩
    · rw [h2]
      have hc := Lib.ownsRow_putRow (q := q) (k := (Lib.compact l).length) (ys := Lib.compact l ++ List.replicate (l.length - (Lib.compact l).length) []) h (by simp; omega) (by omega)
      rw [List.take_left] at hc
      exact hc
    · rw [h2]
      refine ⟨rfl, rfl, rfl, by simp [putRow, mapBlock, Sort.ahead], fun k hk hne => ?_⟩
      have : g ≠ k := fun e => hne (by rw [← e]; rfl)
      simp [putRow, mapBlock, Sort.ahead, Array.getElem?_modify, this]
/-! What it tells -/
theorem strict_extS {α : Type} (lt : α → α → Prop) (irr : ∀ a, ¬ lt a a) (tr : ∀ a b c, lt a b → lt b c → lt a c) : ∀ (l m : List α), l.Pairwise lt → m.Pairwise lt → (∀ x, x ∈ l ↔ x ∈ m) → l = m
  | [], [], _, _, _ => rfl
  | [], b :: m, _, _, h => by have := (h b).2 (List.mem_cons_self ..); cases this
  | a :: l, [], _, _, h => by have := (h a).1 (List.mem_cons_self ..); cases this
  | a :: l, b :: m, hl, hm, h => by
    rw [List.pairwise_cons] at hl hm
    have hab : a = b := by
      rcases List.mem_cons.1 ((h a).1 (List.mem_cons_self ..)) with e | e
      · exact e
      · rcases List.mem_cons.1 ((h b).2 (List.mem_cons_self ..)) with e' | e'
        · exact e'.symm
        · exact absurd (tr _ _ _ (hm.1 a e) (hl.1 b e')) (irr _)
    subst hab
    congr 1
    refine strict_extS lt irr tr l m hl.2 hm.2 fun x => ?_
    constructor
    · intro hx
      rcases List.mem_cons.1 ((h x).1 (List.mem_cons_of_mem _ hx)) with e | e
      · subst e; exact absurd (hl.1 x hx) (irr _)
      · exact e
    · intro hx
      rcases List.mem_cons.1 ((h x).2 (List.mem_cons_of_mem _ hx)) with e | e
      · subst e; exact absurd (hm.1 x hx) (irr _)
      · exact e
theorem leS_trans {a b c : List UInt8} (h1 : a ≤ b) (h2 : b ≤ c) : a ≤ c := List.le_trans h1 h2
theorem leS_total (a b : List UInt8) : a ≤ b ∨ b ≤ a := List.le_total a b
theorem ltS_irr (a : List UInt8) : ¬ a < a := List.lt_irrefl a
theorem ltS_trans (a b c : List UInt8) (h1 : a < b) (h2 : b < c) : a < c := List.lt_trans h1 h2
theorem ltS_of {a b : List UInt8} (h : a ≤ b) (hn : a ≠ b) : a < b := by
  rcases Classical.em (a < b) with h1 | h1
  · exact h1
  · exact absurd (List.le_antisymm h (List.not_lt.1 h1)) hn
theorem leS_lt {a b c : List UInt8} (h1 : a ≤ b) (h2 : b < c) : a < c := by
  rcases Classical.em (a = b) with e | e
  · subst e; exact h2
  · exact ltS_trans _ _ _ (ltS_of h1 e) h2
theorem upTo_ofS (d : Array (List UInt8)) (n : Nat) (hd : ∀ i j, i ≤ j → j < n → d[i]! ≤ d[j]!) : ∀ m, m ≤ n → (Lib.compactUpTo d m).Pairwise (· < ·) ∧ ∀ x, x ∈ Lib.compactUpTo d m ↔ ∃ j, j < m ∧ d[j]! = x := by
  intro m
  induction m with
  | zero => intro _; exact ⟨by simp [Lib.compactUpTo], fun x => by simp [Lib.compactUpTo]⟩
  | succ m ih =>
    intro hm
    obtain ⟨h1, h2⟩ := ih (by omega)
    rw [Lib.compactUpTo_succ]
    by_cases hk : Lib.keeps d m = true
    · rw [if_pos hk]
      have hk' : m = 0 ∨ d[m]! ≠ d[m - 1]! := by unfold Lib.keeps at hk; exact of_decide_eq_true hk
      refine ⟨?_, fun x => ?_⟩
      · rw [List.pairwise_append]
        refine ⟨h1, by simp, fun x hx y hy => ?_⟩
        obtain rfl : y = d[m]! := by simpa using hy
        obtain ⟨j, hj, rfl⟩ := (h2 x).1 hx
        rcases hk' with e | e
        · omega
        · have a1 := hd j (m - 1) (by omega) (by omega)
          have a2 := hd (m - 1) m (by omega) (by omega)
          exact leS_lt a1 (ltS_of a2 (fun h => e h.symm))
      · rw [List.mem_append, h2]
        constructor
        · rintro (⟨j, hj, e⟩ | h)
          · exact ⟨j, by omega, e⟩
          · exact ⟨m, by omega, (List.mem_singleton.1 h).symm⟩
        · rintro ⟨j, hj, e⟩
          by_cases hjm : j = m
          · subst hjm; exact .inr (by simp [e])
          · exact .inl ⟨j, by omega, e⟩
    · rw [if_neg hk, List.append_nil]
      have hk' : ¬ (m = 0 ∨ d[m]! ≠ d[m - 1]!) := by unfold Lib.keeps at hk; simpa using hk
      have hm0 : 0 < m := by omega
      have he : d[m]! = d[m - 1]! := Classical.byContradiction fun h => hk' (.inr h)
      refine ⟨h1, fun x => ?_⟩
      rw [h2]
      constructor
      · rintro ⟨j, hj, e⟩; exact ⟨j, by omega, e⟩
      · rintro ⟨j, hj, e⟩
        by_cases hjm : j = m
        · subst hjm; exact ⟨j - 1, by omega, by rw [← he]; exact e⟩
        · exact ⟨j, by omega, e⟩
/-- Sorted, then compacted: strictly rising, of the same members. -/
theorem sorted_compactS (l : List (List UInt8)) : (Lib.compact (l.mergeSort fun x y => decide (x ≤ y))).Pairwise (· < ·) ∧ ∀ x, x ∈ Lib.compact (l.mergeSort fun x y => decide (x ≤ y)) ↔ x ∈ l := by
  have hs : (l.mergeSort fun x y => decide (x ≤ y)).Pairwise fun a b => decide (a ≤ b) = true := List.pairwise_mergeSort (fun a b c h1 h2 => by simp at *; exact leS_trans h1 h2) (fun a b => by simp; exact leS_total a b) l
  have hmem : ∀ x, x ∈ (l.mergeSort fun x y => decide (x ≤ y)) ↔ x ∈ l := fun x => List.mem_mergeSort
  generalize (l.mergeSort fun x y => decide (x ≤ y)) = s at *
  have hd : ∀ i j, i ≤ j → j < s.length → s.toArray[i]! ≤ s.toArray[j]! := by
    intro i j hij hj
    rw [getElem!_pos s.toArray i (by simpa using (by omega : i < s.length)), getElem!_pos s.toArray j (by simpa using hj)]
    simp only [List.getElem_toArray]
    by_cases e : i = j
    · subst e; exact List.le_refl _
    · have := List.pairwise_iff_getElem.1 hs i j (by omega) hj (by omega)
      simpa using this
  obtain ⟨h1, h2⟩ := upTo_ofS s.toArray s.length hd s.length (Nat.le_refl _)
  refine ⟨h1, fun x => ?_⟩
  show x ∈ Lib.compactUpTo s.toArray s.length ↔ _
  rw [h2, ← hmem]
  constructor
  · rintro ⟨j, hj, e⟩
    rw [getElem!_pos s.toArray j (by simpa using hj)] at e
    rw [← e]; simp
  · intro hx
    obtain ⟨j, hj, e⟩ := List.getElem_of_mem hx
    refine ⟨j, hj, ?_⟩
    rw [getElem!_pos s.toArray j (by simpa using hj)]
    simpa using e
end Go.Proofs.Ytbamcpnmabpacaa
