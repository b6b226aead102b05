/- Plain facts on what stands between the references of a text. -/
import Derived.Test.YtkeclfhhilphpaaDoorRefAll
namespace Go.Proofs.YtkeclfhhilphpaaDoor
open Go.RowKit Go.Proofs.YtkeclfhhilphpaaDoor.UtfPlain Go.Proofs.YtkeclfhhilphpaaDoor.CharsPlain Go.Proofs.YtkeclfhhilphpaaDoor.NamePlain Go.Proofs.YtkeclfhhilphpaaDoor.RefPlain
/-- References that stand one behind the other, from a place on. -/
def Chain (s : ByteArray) : Nat → List RefR → Prop
  | _, [] => True
  | at_, x :: l => at_ ≤ x.a ∧ x.a < x.b ∧ x.b ≤ s.size ∧ s.extract x.a x.b = ⟨#[38]⟩ ++ strOfNums x.s ++ ⟨#[59]⟩ ∧ Chain s x.b l
/-- The place behind some references. -/
def lastB (at_ : Nat) : List RefR → Nat
  | [] => at_
  | x :: l => lastB x.b l
theorem lastB_snoc (l : List RefR) (x : RefR) : ∀ at_, lastB at_ (l ++ [x]) = x.b := by
  induction l with
  | nil => exact fun _ => rfl
  | cons y l ih => exact fun _ => ih _
theorem chain_app (s : ByteArray) (l m : List RefR) : ∀ at_, Chain s at_ (l ++ m) → Chain s (lastB at_ l) m := by
  induction l with
  | nil => exact fun _ h => h
  | cons y l ih => exact fun _ h => ih _ h.2.2.2.2
theorem chain_next (s : ByteArray) (pre rest : List RefR) (x : RefR) (h : Chain s 0 (pre ++ x :: rest)) : lastB 0 pre ≤ x.a ∧ x.a < x.b ∧ x.b ≤ s.size ∧ s.extract x.a x.b = ⟨#[38]⟩ ++ strOfNums x.s ++ ⟨#[59]⟩ := by
  have h := chain_app s pre (x :: rest) 0 h
  exact ⟨h.1, h.2.1, h.2.2.1, h.2.2.2.1⟩
theorem chain_last (s : ByteArray) (l : List RefR) : ∀ at_, at_ ≤ s.size → Chain s at_ l → lastB at_ l ≤ s.size := by
  induction l with
  | nil => exact fun _ h _ => h
  | cons y l ih => exact fun _ _ h => ih _ h.2.2.1 h.2.2.2.2
theorem cut_str (s : ByteArray) (i j : Nat) : strOfNums (cut (bsOf s) i j) = s.extract i j := by
  apply Go.WideShapes.bytes_inj
  rw [Lib.extract_data]
  unfold strOfNums cut bsOf
  rw [← List.map_drop, ← List.map_take, List.map_map]
  simp [Function.comp_def]
theorem byte_of {s : ByteArray} {k : Nat} {z : UInt8} (hk : k < s.size) (h : (bsOf s).getD k 0 = z.toNat) : s.data.toList[k]? = some z := by
  have hl : k < s.data.toList.length := by rw [Array.length_toList]; exact hk
  unfold bsOf at h
  rw [List.getD_eq_getElem?_getD, List.getElem?_map, List.getElem?_eq_getElem hl] at h
  simp at h
  rw [List.getElem?_eq_getElem hl]
  congr 1
  apply UInt8.toNat_inj.1
  have h2 : s.data[k].toNat = z.toNat := by omega
  simpa using h2
theorem three_parts (l : List UInt8) (a e : Nat) (x y : UInt8) (hae : a + 1 ≤ e) (h1 : l[a]? = some x) (h2 : l[e]? = some y) : (l.drop a).take (e + 1 - a) = [x] ++ (l.drop (a + 1)).take (e - (a + 1)) ++ [y] := by
  have ha : a < l.length := (List.getElem?_eq_some_iff.1 h1).1
  have he : e < l.length := (List.getElem?_eq_some_iff.1 h2).1
  rw [List.getElem?_eq_getElem ha] at h1
  rw [List.drop_eq_getElem_cons ha, Option.some.inj h1]
  obtain ⟨d, rfl⟩ : ∃ d, e = a + 1 + d := ⟨e - (a + 1), by omega⟩
  rw [show a + 1 + d + 1 - a = d + 1 + 1 by omega, show a + 1 + d - (a + 1) = d by omega, List.take_succ_cons, List.take_add_one, List.getElem?_drop, h2]
  rfl
theorem ent_text (s : ByteArray) (i : Nat) (hi : i < s.size) (h : (entN (bsOf s) 38 i).2.2 = 0) : s.extract i (entN (bsOf s) 38 i).2.1 = ⟨#[38]⟩ ++ strOfNums (entN (bsOf s) 38 i).1 ++ ⟨#[59]⟩ := by
  have hl := bsOf_len s
  have hn := entN_next (bsOf s) i (by omega) h
  by_cases c2 : (readN (bsOf s) true ((i : Int) + 1)).2.2 = 0
  · by_cases c3 : endN (bsOf s) true true (i + 1) = (bsOf s).length ∨ ¬ (bsOf s).getD (endN (bsOf s) true true (i + 1)) 0 = 59
    · rw [entN_open (bsOf s) 38 i (by omega) hn.2.2 c2 c3] at h; simp at h
    · rw [entN_ok (bsOf s) 38 i (by omega) hn.2.2 c2 c3]
      have hb := endN_b (bsOf s) true true (i + 1) (by omega)
      have hne : ¬ endN (bsOf s) true true (i + 1) = (bsOf s).length := fun e => c3 (.inl e)
      have h59 : (bsOf s).getD (endN (bsOf s) true true (i + 1)) 0 = 59 := by
        by_cases e : (bsOf s).getD (endN (bsOf s) true true (i + 1)) 0 = 59
        · exact e
        · exact absurd (.inr e) c3
      generalize endN (bsOf s) true true (i + 1) = j at *
      show s.extract i (j + 1) = ⟨#[38]⟩ ++ strOfNums (cut (bsOf s) (i + 1) j) ++ ⟨#[59]⟩
      rw [cut_str]
      apply Go.WideShapes.bytes_inj
      rw [ByteArray.data_append, ByteArray.data_append, Array.toList_append, Array.toList_append, Lib.extract_data, Lib.extract_data]
      exact three_parts s.data.toList i j 38 59 (by omega) (byte_of hi (by rw [hn.2.2]; rfl)) (byte_of (by omega) (by rw [h59]; rfl))
  · rw [entN_err (bsOf s) 38 i (by omega) hn.2.2 c2] at h
    exact absurd h c2
theorem refs_chain (s : ByteArray) (f : Nat) : ∀ at_ i, at_ ≤ i → i ≤ s.size → Chain s at_ (refsF (bsOf s) f i) := by
  have hl := bsOf_len s
  induction f with
  | zero => exact fun _ _ _ _ => trivial
  | succ f ih =>
    intro at_ i h1 h2
    unfold refsF
    by_cases hi : i < (bsOf s).length
    · rw [if_pos hi]
      by_cases he : (entN (bsOf s) 38 i).2.2 = 0
      · rw [if_pos he]
        have hn := entN_next (bsOf s) i hi he
        refine ⟨h1, by show i < (entN (bsOf s) 38 i).2.1; omega, by show (entN (bsOf s) 38 i).2.1 ≤ s.size; omega, ent_text s i (by omega) he, ?_⟩
        exact ih _ _ (Nat.le_refl _) (by omega)
      · rw [if_neg he]
        exact ih _ _ (by omega) (by omega)
    · rw [if_neg hi]; trivial
theorem refsN_chain (s : ByteArray) : Chain s 0 (refsN (bsOf s)) := refs_chain s _ 0 0 (Nat.le_refl _) (Nat.zero_le _)
/-- What stands between. -/
def cutsF (s : ByteArray) : Nat → List RefR → List ByteArray
  | _, [] => []
  | at_, x :: l => s.extract at_ x.a :: cutsF s x.b l
theorem cutsF_len (s : ByteArray) (l : List RefR) : ∀ at_, (cutsF s at_ l).length = l.length := by
  induction l with
  | nil => exact fun _ => rfl
  | cons x l ih => exact fun _ => by simp [cutsF, ih]
theorem cutsF_snoc (s : ByteArray) (l : List RefR) (x : RefR) : ∀ at_, cutsF s at_ (l ++ [x]) = cutsF s at_ l ++ [s.extract (lastB at_ l) x.a] := by
  induction l with
  | nil => exact fun _ => rfl
  | cons y l ih => exact fun _ => by simp [cutsF, ih, lastB]
def cutsN (s : ByteArray) : List ByteArray := cutsF s 0 (refsN (bsOf s)) ++ [s.extract (lastB 0 (refsN (bsOf s))) s.size]
theorem cutsN_len (s : ByteArray) : (cutsN s).length = (refsN (bsOf s)).length + 1 := by unfold cutsN; rw [List.length_append, cutsF_len]; rfl
theorem cutsF_at (s : ByteArray) (l : List RefR) : ∀ at_ k x, l[k]? = some x → (cutsF s at_ l)[k]? = some (s.extract (lastB at_ (l.take k)) x.a) := by
  induction l with
  | nil => intro at_ k x h; simp at h
  | cons y l ih =>
    intro at_ k x h
    cases k with
    | zero => simp at h; subst h; rfl
    | succ k => exact ih _ k x (by simpa using h)
theorem ext_glue (s : ByteArray) (i j : Nat) (hij : i ≤ j) : s.extract 0 i ++ s.extract i j = s.extract 0 j := by
  apply Go.WideShapes.bytes_inj
  rw [ByteArray.data_append, Array.toList_append, Lib.extract_data, Lib.extract_data, Lib.extract_data]
  simp only [List.drop_zero, Nat.sub_zero]
  obtain ⟨d, rfl⟩ : ∃ d, j = i + d := ⟨j - i, by omega⟩
  rw [Nat.add_sub_cancel_left, List.take_add]
theorem ext_all (s : ByteArray) : s.extract 0 s.size = s := by
  apply Go.WideShapes.bytes_inj
  rw [Lib.extract_data]
  simp only [List.drop_zero, Nat.sub_zero]
  exact List.take_of_length_le (by rw [Array.length_toList]; exact Nat.le_refl _)
end Go.Proofs.YtkeclfhhilphpaaDoor
