/- Steps as a text, and back: plain lists; no program in sight. -/
import Derived.Test.YtlifdmehejehjaaDoorQCuts
import Derived.Lib.Join
namespace Go.Proofs.YtlifdmehejehjaaDoor.QPlain
open Go.Proofs.YtlifdmehejehjaaDoor Go.Proofs.YtlifdmehejehjaaDoor.NamePlain
def okW (x : StN) : Bool := (x.any && !x.deep && decide (x.nm = ⟨#[]⟩)) || (!x.any && x.deep && decide (x.nm = ⟨#[]⟩)) || (!x.any && !x.deep && isN (bsOf x.nm) true)
def wordN (x : StN) : ByteArray := if x.deep then ⟨#[42, 42]⟩ else if x.any then ⟨#[42]⟩ else x.nm
/-- What the program's word tells: none, of a step that is no step. -/
def wordP (x : StN) : ByteArray := if okW x then wordN x else ⟨#[]⟩
def txtW (ws : List ByteArray) : Nat → ByteArray
  | 0 => ⟨#[]⟩
  | k + 1 => (if 0 < k then txtW ws k ++ ⟨#[47]⟩ else txtW ws k) ++ ws.getD k ⟨#[]⟩
def printN (l : List StN) : ByteArray × Int := if l.any (fun x => !okW x) then (⟨#[]⟩, 7) else if l.length = 0 then (⟨#[]⟩, 7) else if 64 < l.length then (⟨#[]⟩, 13) else (txtW (l.map wordN) l.length, 0)
theorem isN_ne {s : ByteArray} (h : isN (bsOf s) true = true) : ¬ s = ⟨#[]⟩ := by rintro rfl; exact absurd h (by decide)
theorem wordN_ne {x : StN} (h : okW x = true) : ¬ wordN x = ⟨#[]⟩ := by
  obtain ⟨a, d, nm⟩ := x
  unfold wordN
  cases d
  · cases a
    · simp only [okW, Bool.not_false, Bool.and_true, Bool.true_and, Bool.false_and, Bool.false_or, Bool.and_false] at h
      simpa using isN_ne h
    · simp
  · simp
theorem wordP_ok {x : StN} (h : okW x = true) : wordP x = wordN x := by unfold wordP; rw [if_pos h]
theorem wordP_no {x : StN} (h : okW x = false) : wordP x = ⟨#[]⟩ := by unfold wordP; rw [if_neg (by simp [h])]
theorem join_snoc (xs : List (List UInt8)) (y sep : List UInt8) (h : xs ≠ []) : Lib.join (xs ++ [y]) sep = Lib.join xs sep ++ sep ++ y := by
  cases xs with
  | nil => exact absurd rfl h
  | cons x r =>
    rw [List.cons_append, Lib.join_cons, Lib.join_cons]
    simp [Lib.joinTail, List.append_assoc]
theorem txtW_join (ws : List ByteArray) (k : Nat) (hk : k ≤ ws.length) : (txtW ws k).data.toList = Lib.join ((ws.take k).map (·.data.toList)) [47] := by
  induction k with
  | zero => rfl
  | succ k ih =>
    have ih := ih (by omega)
    have hx : ws[k]? = some ws[k] := List.getElem?_eq_getElem (by omega)
    rw [List.take_add_one, hx, List.map_append]
    show (txtW ws (k + 1)).data.toList = Lib.join (_ ++ [ws[k].data.toList]) [47]
    unfold txtW
    have hg : ws.getD k ⟨#[]⟩ = ws[k] := by rw [List.getD_eq_getElem?_getD, hx]; rfl
    rw [hg]
    by_cases h0 : 0 < k
    · rw [if_pos h0, ByteArray.data_append, ByteArray.data_append, Array.toList_append, Array.toList_append, ih, join_snoc _ _ _ (by
        intro e
        have := congrArg List.length e
        rw [List.length_map, List.length_take, List.length_nil] at this
        omega)]
    · obtain rfl : k = 0 := by omega
      rw [if_neg (by omega), ByteArray.data_append, Array.toList_append]
      simp [txtW, Lib.join_one]
theorem txtW_prog (ws : List ByteArray) : (⟨(Lib.join (ws.map (·.data.toList)) [47]).toArray⟩ : ByteArray) = txtW ws ws.length := by
  have h := txtW_join ws ws.length (Nat.le_refl _)
  rw [List.take_length] at h
  rw [← h]
theorem parts_join (s : ByteArray) (f i : Nat) (hf : s.size - i ≤ f) (hi : i ≤ s.size) : partsN s i ≠ [] ∧ Lib.join ((partsN s i).map (·.data.toList)) [47] = s.data.toList.drop i := by
  have hlen : s.data.toList.length = s.size := by rw [Array.length_toList]; rfl
  have hex : ∀ a b, (s.extract a b).data.toList = (s.data.toList.drop a).take (b - a) := fun a b => by
    rw [ByteArray.data_extract, Array.toList_extract, List.extract_eq_take_drop]
  induction f generalizing i with
  | zero =>
    have hs : slash s.data.toList i < 0 := by
      rcases Int.lt_or_le (slash s.data.toList i) 0 with h | h
      · exact h
      · have := (slash_lt (L := s.data.toList) (i := i) (d := (slash s.data.toList i).toNat) (by omega)).1
        omega
    unfold partsN
    rw [cutsN_no hs]
    refine ⟨by simp, ?_⟩
    simp only [List.map_cons, List.map_nil, Lib.join_one, hex]
    rw [List.take_of_length_le (by rw [List.length_drop]; omega)]
  | succ f ih =>
    rcases Int.lt_or_le (slash s.data.toList i) 0 with h | h
    · unfold partsN
      rw [cutsN_no h]
      refine ⟨by simp, ?_⟩
      simp only [List.map_cons, List.map_nil, Lib.join_one, hex]
      rw [List.take_of_length_le (by rw [List.length_drop]; omega)]
    · obtain ⟨d, hd⟩ : ∃ d : Nat, slash s.data.toList i = d := ⟨_, (Int.toNat_of_nonneg h).symm⟩
      obtain ⟨h1, h2, _⟩ := slash_lt hd
      have ih := ih (i + d + 1) (by omega) (by omega)
      have hp : partsN s i = s.extract i (i + d) :: partsN s (i + d + 1) := by unfold partsN; rw [cutsN_yes hd]; rfl
      rw [hp]
      refine ⟨by simp, ?_⟩
      rw [List.map_cons, Lib.join_cons]
      have hjt : ∀ r : List (List UInt8), r ≠ [] → Lib.joinTail [47] r = [47] ++ Lib.join r [47] := by
        intro r hr
        cases r with
        | nil => exact absurd rfl hr
        | cons z r => rw [Lib.join_cons]; simp [Lib.joinTail]
      rw [hjt _ (by simpa using ih.1), ih.2, hex]
      have e : s.data.toList.drop i = (s.data.toList.drop i).take d ++ (s.data.toList.drop i).drop d := (List.take_append_drop d _).symm
      rw [e, List.drop_drop, show i + d - i = d by omega]
      congr 1
      · rw [List.take_append_of_le_length (by rw [List.length_take, List.length_drop]; omega), List.take_take, Nat.min_self]
      · rw [List.drop_eq_getElem_cons h1, (List.getElem?_eq_some_iff.1 h2).2]; rfl
theorem one_word {p : ByteArray} (h : (oneN p).2 = true) : okW (oneN p).1 = true ∧ wordN (oneN p).1 = p := by
  unfold oneN at h ⊢
  split
  · rename_i h1; subst h1; exact ⟨by decide, by decide⟩
  · split
    · rename_i h1; subst h1; exact ⟨by decide, by decide⟩
    · rename_i h1 h2
      rw [if_neg h1, if_neg h2] at h
      exact ⟨by simp only [okW, Bool.not_false, Bool.and_true, Bool.true_and, Bool.false_and, Bool.false_or, Bool.and_false]; exact h, rfl⟩
theorem stepsN_words {ps : List ByteArray} {l : List StN} (h : stepsN ps = some l) : (∀ x ∈ l, okW x = true) ∧ l.map wordN = ps := by
  induction ps generalizing l with
  | nil => cases h; exact ⟨by simp, rfl⟩
  | cons p ps ih =>
    simp only [stepsN] at h
    split at h
    · rename_i hp
      cases hq : stepsN ps with
      | none => rw [hq] at h; cases h
      | some m =>
        rw [hq] at h; cases h
        obtain ⟨h1, h2⟩ := ih hq
        obtain ⟨h3, h4⟩ := one_word hp
        exact ⟨fun x hx => by rcases List.mem_cons.1 hx with rfl | hx; exact h3; exact h1 x hx, by rw [List.map_cons, h4, h2]⟩
    · cases h
theorem print_parse (s : ByteArray) (h : (parseN s).2 = 0) : printN (parseN s).1 = (s, 0) := by
  unfold parseN at h ⊢
  cases hs : stepsN (partsN s 0) with
  | none => rw [hs] at h; cases h
  | some l =>
    rw [hs] at h
    simp only at h ⊢
    split at h
    · cases h
    · rename_i h64
      rw [if_neg h64]
      obtain ⟨h1, h2⟩ := stepsN_words hs
      have hj := parts_join s s.size 0 (by omega) (by omega)
      have hl : l.length = (partsN s 0).length := by rw [← h2, List.length_map]
      have hpos : 0 < (partsN s 0).length := List.length_pos_iff.2 hj.1
      show printN l = (s, 0)
      unfold printN
      rw [if_neg (by rw [List.any_eq_true]; rintro ⟨x, hx, h⟩; rw [h1 x hx] at h; cases h), if_neg (by omega), if_neg h64, h2, hl, ← txtW_prog, hj.2, List.drop_zero]
end Go.Proofs.YtlifdmehejehjaaDoor.QPlain
