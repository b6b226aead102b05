/- Merged texts: RefSplit, CostP, CostQ, OrAgreeMap, CostDeep, CostEq, Blk3, SatPlain, SatB, CostSum, Known, SzMap, CostTextP. -/
import Derived.Test.YtkeclfhhilphpaaDoorRefPlain
import Derived.WalkKit
import Derived.Test.YtkeclfhhilphpaaDoorBel
import Derived.Test.YtkeclfhhilphpaaDoorProg
import Derived.Below
import Derived.Maps.Own
import Derived.Maps.OwnSet
import Derived.Maps.Views
import Derived.WideShapes
import Derived.Lib.Hide
import Derived.Lib.Builder
import Derived.Lib.SmallJoins
import Derived.RangeFuncRecord
import Derived.Deep.RegionHeld3
import Derived.Test.YtkeclfhhilphpaaDoorCharsRef
import Derived.Test.YtkeclfhhilphpaaDoorInts
import Derived.Test.YtkeclfhhilphpaaDoorShelf
import Derived.Outline
import Derived.WalkLawsBesides
import Derived.Deep.QuietTactic
import Derived.BigQuiet
import Derived.Test.YtkeclfhhilphpaaDoorStrEq
import Derived.Test.YtkeclfhhilphpaaDoorUtfDecode
/- References of two texts with a blank between: those of the one, then those of the other. Plain; no program in sight. -/
namespace Go.Proofs.YtkeclfhhilphpaaDoor.RefPlain
open Go.Proofs.YtkeclfhhilphpaaDoor.UtfPlain Go.Proofs.YtkeclfhhilphpaaDoor.CharsPlain Go.Proofs.YtkeclfhhilphpaaDoor.NamePlain
set_option linter.unusedVariables false
theorem rest_left (v t : List Int) (i : Nat) (h : i < v.length) : rest (v ++ t) i = rest v i := by unfold rest; rw [List.getElem?_append_left h]
theorem rest_right (v t : List Int) (j : Nat) : rest (v ++ t) (v.length + j) = rest t j := by unfold rest; rw [List.getElem?_append_right (by omega), Nat.add_sub_cancel_left]
theorem getD_right (v t : List Int) (j : Nat) : (v ++ t).getD (v.length + j) 0 = t.getD j 0 := by rw [List.getD_eq_getElem?_getD, List.getD_eq_getElem?_getD, List.getElem?_append_right (by omega), Nat.add_sub_cancel_left]
theorem getD_left (v t : List Int) (i : Nat) (h : i < v.length) : (v ++ t).getD i 0 = v.getD i 0 := by rw [List.getD_eq_getElem?_getD, List.getD_eq_getElem?_getD, List.getElem?_append_left h]
theorem rest_end (v : List Int) : rest v v.length = -1 := by unfold rest; rw [List.getElem?_eq_none (Nat.le_refl _)]
theorem rest_blank (v t : List Int) : rest (v ++ 32 :: t) v.length = -1 := by
  have := rest_right v (32 :: t) 0
  rw [Nat.add_zero] at this
  rw [this]; rfl
theorem char_right (v t : List Int) (j : Nat) : charAt (v ++ t) (v.length + j) = charAt t j := by
  unfold charAt
  rw [getD_right, Nat.add_assoc, rest_right, Nat.add_assoc, rest_right, Nat.add_assoc, rest_right]
theorem cand_1 (c y z y' z' : Int) : cand c (-1) y z = cand c (-1) y' z' := by unfold cand; simp
theorem cand_2 (c x z z' : Int) : cand c x (-1) z = cand c x (-1) z' := by unfold cand; simp
theorem char_left (v t : List Int) (i : Nat) (h : i < v.length) : charAt (v ++ 32 :: t) i = charAt v i := by
  unfold charAt
  rw [getD_left _ _ _ h]
  by_cases h1 : i + 1 = v.length
  · rw [h1, rest_blank, rest_end]
    unfold charOf
    rw [cand_1 _ _ _ (rest v (i + 2)) (rest v (i + 3))]
  · rw [rest_left _ _ (i + 1) (by omega)]
    by_cases h2 : i + 2 = v.length
    · rw [h2, rest_blank, rest_end]
      unfold charOf
      rw [cand_2 _ _ _ (rest v (i + 3))]
    · rw [rest_left _ _ (i + 2) (by omega)]
      by_cases h3 : i + 3 = v.length
      · rw [h3, rest_blank, rest_end]
      · rw [rest_left _ _ (i + 3) (by omega)]
theorem char_blank (v t : List Int) : mayK true true (charAt (v ++ 32 :: t) v.length).1 = false ∧ mayK false true (charAt (v ++ 32 :: t) v.length).1 = false := by
  have h := char_right v (32 :: t) 0
  rw [Nat.add_zero] at h
  rw [h]
  have e : (charAt (32 :: t) 0).1 = 32 := by
    unfold charAt charOf cand
    rw [show (32 :: t : List Int).getD 0 0 = 32 from rfl]
    rfl
  rw [e]
  exact ⟨by decide, by decide⟩
theorem end_blank (v t : List Int) : ∀ (d : Nat) (first : Bool) (i : Nat), v.length - i = d → i ≤ v.length → endN (v ++ 32 :: t) true first i = endN v true first i := by
  intro d
  induction d using Nat.strongRecOn with
  | _ d ih =>
    intro first i hd hi
    by_cases h : i < v.length
    · have hc := char_left v t i h
      by_cases hs : (charAt v i).2 = 0 ∨ mayK first true (charAt v i).1 = false
      · rw [endN_no v true first i hs, endN_no _ true first i (by rw [hc]; exact hs)]
      · simp only [not_or, Bool.not_eq_false] at hs
        have hin := charAt_in v i h
        rw [endN_yes v true first i h hs.1 hs.2, endN_yes _ true first i (by simp; omega) (by rw [hc]; exact hs.1) (by rw [hc]; exact hs.2), hc]
        exact ih (v.length - (i + (charAt v i).2)) (by have := hs.1; omega) false _ rfl hin
    · obtain rfl : i = v.length := by omega
      rw [endN_at v true first _ (Nat.le_refl _)]
      refine endN_no _ true first _ (.inr ?_)
      cases first with
      | true => exact (char_blank v t).1
      | false => exact (char_blank v t).2
theorem end_right (v t : List Int) (first : Bool) (j : Nat) : endN (v ++ t) true first (v.length + j) = v.length + endN t true first j := by
  unfold endN
  rw [show (v ++ t).length - (v.length + j) = t.length - j by simp; omega]
  generalize t.length - j = f
  induction f generalizing first j with
  | zero => rfl
  | succ f ih =>
    unfold endF
    by_cases h : j < t.length
    · rw [if_pos h, if_pos (by simp; omega), char_right]
      by_cases hs : (charAt t j).2 = 0 ∨ mayK first true (charAt t j).1 = false
      · rw [if_pos hs, if_pos hs]
      · rw [if_neg hs, if_neg hs, Nat.add_assoc]; exact ih false _
    · rw [if_neg h, if_neg (by simp; omega)]
theorem cut_left (v t : List Int) (i j : Nat) (hj : j ≤ v.length) : cut (v ++ t) i j = cut v i j := by
  unfold cut
  rw [List.drop_append, List.take_append]
  by_cases h : i ≤ v.length
  · rw [show j - i - (v.drop i).length = 0 by simp; omega]; simp
  · rw [show j - i = 0 by omega]; simp
theorem cut_right (v t : List Int) (i j : Nat) : cut (v ++ t) (v.length + i) (v.length + j) = cut t i j := by
  unfold cut
  rw [List.drop_append, List.drop_eq_nil_of_le (by omega), List.nil_append, Nat.add_sub_cancel_left, show v.length + j - (v.length + i) = j - i by omega]
theorem ent_left (v t : List Int) (i : Nat) (h : i < v.length) : entN (v ++ 32 :: t) 38 i = entN v 38 i := by
  have he : endN (v ++ 32 :: t) true true (i + 1) = endN v true true (i + 1) := end_blank v t _ true (i + 1) rfl (by omega)
  have hb := endN_b v true true (i + 1) (by omega)
  have hr : readN (v ++ 32 :: t) true ((i : Int) + 1) = readN v true ((i : Int) + 1) := by
    unfold readN
    rw [show ((i : Int) + 1).toNat = i + 1 by omega, he, cut_left _ _ _ _ hb.2]
    have a1 : ¬ ((i : Int) + 1 < 0 ∨ ((v ++ 32 :: t).length : Int) < (i : Int) + 1) := by rw [List.length_append, List.length_cons]; omega
    have a2 : ¬ ((i : Int) + 1 < 0 ∨ (v.length : Int) < (i : Int) + 1) := by omega
    rw [if_neg a1, if_neg a2]
  have hg : (endN v true true (i + 1) = (v ++ 32 :: t).length ∨ ¬ (v ++ 32 :: t).getD (endN v true true (i + 1)) 0 = 59) ↔ (endN v true true (i + 1) = v.length ∨ ¬ v.getD (endN v true true (i + 1)) 0 = 59) := by
    by_cases hl : endN v true true (i + 1) = v.length
    · rw [hl]
      have := getD_right v (32 :: t) 0
      rw [Nat.add_zero] at this
      rw [this]
      simp
    · rw [getD_left _ _ _ (by omega)]
      have h2 : ¬ endN v true true (i + 1) = (v ++ 32 :: t).length := by rw [List.length_append, List.length_cons]; omega
      exact ⟨fun h => .inr (h.resolve_left h2), fun h => .inr (h.resolve_left hl)⟩
  unfold entN
  rw [hr, he, getD_left _ _ _ h, cut_left _ _ _ _ hb.2]
  have h0 : (i = (v ++ 32 :: t).length ∨ ¬ v.getD i 0 = 38) ↔ (i = v.length ∨ ¬ v.getD i 0 = 38) := by
    have h1 : ¬ i = (v ++ 32 :: t).length := by rw [List.length_append, List.length_cons]; omega
    have h2 : ¬ i = v.length := by omega
    exact ⟨fun h => .inr (h.resolve_left h1), fun h => .inr (h.resolve_left h2)⟩
  simp only [h0, hg]
theorem ent_right (v t : List Int) (j : Nat) (h : j < t.length) : entN (v ++ t) 38 (v.length + j) = ((entN t 38 j).1, (if (entN t 38 j).2.2 = 0 then v.length else 0) + (entN t 38 j).2.1, (entN t 38 j).2.2) := by
  have he : endN (v ++ t) true true (v.length + j + 1) = v.length + endN t true true (j + 1) := by rw [Nat.add_assoc]; exact end_right v t true (j + 1)
  have hr1 : (readN (v ++ t) true (((v.length + j : Nat) : Int) + 1)).2.2 = (readN t true ((j : Int) + 1)).2.2 := by
    unfold readN
    rw [show (((v.length + j : Nat) : Int) + 1).toNat = v.length + j + 1 by omega, show ((j : Int) + 1).toNat = j + 1 by omega, he]
    have a1 : ¬ (((v.length + j : Nat) : Int) + 1 < 0 ∨ ((v ++ t).length : Int) < ((v.length + j : Nat) : Int) + 1) := by rw [List.length_append]; omega
    have a2 : ¬ ((j : Int) + 1 < 0 ∨ (t.length : Int) < (j : Int) + 1) := by omega
    rw [if_neg a1, if_neg a2]
    by_cases e1 : endN t true true (j + 1) = j + 1
    · rw [if_pos e1, if_pos (by omega)]
    · rw [if_neg e1, if_neg (by omega)]
      by_cases e2 : 1024 < endN t true true (j + 1) - (j + 1)
      · rw [if_pos e2, if_pos (by omega)]
      · rw [if_neg e2, if_neg (by omega)]
  unfold entN
  rw [hr1, he, getD_right]
  by_cases c1 : j = t.length ∨ ¬ t.getD j 0 = 38
  · rw [if_pos c1, if_pos (by rw [List.length_append]; exact c1.imp (fun h => by omega) id)]; rfl
  · rw [if_neg c1, if_neg (by rw [List.length_append]; exact fun h => c1 (h.imp (fun h => by omega) id))]
    by_cases c2 : ¬ (readN t true ((j : Int) + 1)).2.2 = 0
    · rw [if_pos c2, if_pos c2]
      simp [c2]
    · rw [if_neg c2, if_neg c2, getD_right]
      by_cases c3 : endN t true true (j + 1) = t.length ∨ ¬ t.getD (endN t true true (j + 1)) 0 = 59
      · rw [if_pos c3, if_pos (by rw [List.length_append]; exact c3.imp (fun h => by omega) id)]; rfl
      · rw [if_neg c3, if_neg (by rw [List.length_append]; exact fun h => c3 (h.imp (fun h => by omega) id)), Nat.add_assoc v.length j 1, cut_right]
        simp; omega
def shiftR (n : Nat) (r : RefR) : RefR := ⟨n + r.a, n + r.b, r.s⟩
theorem refs_right (v t : List Int) : ∀ (d j : Nat), t.length - j = d → refsA (v ++ t) (v.length + j) = (refsA t j).map (shiftR v.length) := by
  intro d
  induction d using Nat.strongRecOn with
  | _ d ih =>
    intro j hd
    by_cases h : j < t.length
    · have he := ent_right v t j h
      have hl : v.length + j < (v ++ t).length := by rw [List.length_append]; omega
      by_cases h0 : (entN t 38 j).2.2 = 0
      · have hn := entN_next t j h h0
        rw [refsA_yes t j h h0, refsA_yes _ _ hl (by rw [he]; exact h0), he, if_pos h0, List.map_cons]
        rw [ih (t.length - (entN t 38 j).2.1) (by omega) _ rfl]
        rfl
      · rw [refsA_no t j h h0, refsA_no _ _ hl (by rw [he]; exact h0), Nat.add_assoc, ih (t.length - (j + 1)) (by omega) (j + 1) rfl]
    · rw [refsA_end t j (by omega), refsA_end _ _ (by rw [List.length_append]; omega)]; rfl
theorem refs_left (v t : List Int) : ∀ (d i : Nat), v.length - i = d → i ≤ v.length → refsA (v ++ 32 :: t) i = refsA v i ++ (refsA t 0).map (shiftR (v.length + 1)) := by
  intro d
  induction d using Nat.strongRecOn with
  | _ d ih =>
    intro i hd hi
    have hll : ∀ k, k ≤ v.length → k < (v ++ 32 :: t).length := fun k hk => by rw [List.length_append, List.length_cons]; omega
    by_cases h : i < v.length
    · have he := ent_left v t i h
      by_cases h0 : (entN v 38 i).2.2 = 0
      · have hn := entN_next v i h h0
        rw [refsA_yes v i h h0, refsA_yes _ _ (hll i hi) (by rw [he]; exact h0), he, List.cons_append, ih (v.length - (entN v 38 i).2.1) (by omega) _ rfl hn.2.1]
      · rw [refsA_no v i h h0, refsA_no _ _ (hll i hi) (by rw [he]; exact h0), ih (v.length - (i + 1)) (by omega) (i + 1) rfl h]
    · obtain rfl : i = v.length := by omega
      have hb : entN (v ++ 32 :: t) 38 v.length = ([], 0, 7) := entN_off _ _ _ (.inr (by
        have := getD_right v (32 :: t) 0
        rw [Nat.add_zero] at this
        rw [this]
        show ¬ (32 : Int) = 38
        decide))
      rw [refsA_no _ _ (hll _ hi) (by rw [hb]; decide), refsA_end v _ (Nat.le_refl _), List.nil_append]
      have := refs_right (v ++ [32]) t (t.length - 0) 0 rfl
      rw [List.append_assoc, List.length_append] at this
      exact this
/-- References of a text, a blank, another text. -/
theorem refsN_blank (v t : List Int) : refsN (v ++ 32 :: t) = refsN v ++ (refsN t).map (shiftR (v.length + 1)) := refs_left v t _ 0 rfl (Nat.zero_le _)
end Go.Proofs.YtkeclfhhilphpaaDoor.RefPlain
/- Sizes of texts: held sums; two texts, one behind the other. Plain; no program in sight. -/
namespace Go.Proofs.YtkeclfhhilphpaaDoor
set_option linter.unusedVariables false
def MX : Nat := 9223372036854775807
structure Sz where
  c : Nat
  l : Nat
  d : Nat
  deriving DecidableEq
theorem Sz.ext' {a b : Sz} (h1 : a.c = b.c) (h2 : a.l = b.l) (h3 : a.d = b.d) : a = b := by cases a; cases b; simp at h1 h2 h3; simp [h1, h2, h3]
def addM (a b : Nat) : Nat := min (a + b) MX
def sumZ (a b : Sz) : Sz := ⟨addM a.c b.c, addM a.l b.l, max a.d b.d⟩
def gapZ (n : Nat) : Sz := ⟨n, n, 0⟩
theorem sumZ_assoc (a b c : Sz) : sumZ (sumZ a b) c = sumZ a (sumZ b c) := by
  refine Sz.ext' ?_ ?_ ?_
  · simp only [sumZ, addM]; omega
  · simp only [sumZ, addM]; omega
  · simp only [sumZ]; omega
theorem sumZ_gap (a : Sz) (m n : Nat) : sumZ a (gapZ (m + n)) = sumZ (sumZ a (gapZ m)) (gapZ n) := by
  refine Sz.ext' ?_ ?_ ?_
  · simp only [sumZ, addM, gapZ]; omega
  · simp only [sumZ, addM, gapZ]; omega
  · simp only [sumZ, gapZ]; omega
theorem sumZ_zero_gap (a : Sz) (n : Nat) : sumZ a (sumZ ⟨0, 0, 0⟩ (gapZ n)) = sumZ a (gapZ n) := by
  refine Sz.ext' ?_ ?_ ?_
  · simp only [sumZ, addM, gapZ]; omega
  · simp only [sumZ, addM, gapZ]; omega
  · simp only [sumZ, gapZ]; omega
/-- A reference in a text, with its size. -/
structure RZ where
  a : Nat
  b : Nat
  z : Sz
def stepZ (s : Sz × Nat) (r : RZ) : Sz × Nat := (sumZ (sumZ s.1 (gapZ (r.a - s.2))) r.z, r.b)
def textZ (n : Nat) (rs : List RZ) : Sz := sumZ (rs.foldl stepZ (⟨0, 0, 0⟩, 0)).1 (gapZ (n - (rs.foldl stepZ (⟨0, 0, 0⟩, 0)).2))
def shiftZ (n : Nat) (r : RZ) : RZ := ⟨n + r.a, n + r.b, r.z⟩
/-- In their order, none beyond the end. -/
def InOrder : Nat → Nat → List RZ → Prop
  | at0, n, [] => at0 ≤ n
  | at0, n, r :: rs => at0 ≤ r.a ∧ r.a ≤ r.b ∧ InOrder r.b n rs
theorem inOrder_end {rs : List RZ} : ∀ {at0 n : Nat} (A : Sz), InOrder at0 n rs → (rs.foldl stepZ (A, at0)).2 ≤ n := by
  induction rs with
  | nil => intro at0 n A h; exact h
  | cons r rs ih => intro at0 n A h; exact ih _ h.2.2
theorem fold_behind (A : Sz) (at0 n : Nat) (h0 : at0 ≤ n) : ∀ (rs : List RZ) (m q : Nat) (X Y : Sz) (at1 : Nat),
    at1 ≤ n + q → InOrder q m rs → (∀ pos, q ≤ pos → sumZ X (gapZ (n + pos - at1)) = sumZ (sumZ A (gapZ (n - at0))) (sumZ Y (gapZ (pos - q)))) →
    sumZ ((rs.map (shiftZ n)).foldl stepZ (X, at1)).1 (gapZ (n + m - ((rs.map (shiftZ n)).foldl stepZ (X, at1)).2)) = sumZ (sumZ A (gapZ (n - at0))) (sumZ (rs.foldl stepZ (Y, q)).1 (gapZ (m - (rs.foldl stepZ (Y, q)).2))) := by
  intro rs
  induction rs with
  | nil => intro m q X Y at1 h1 ho hp; exact hp m ho
  | cons r rs ih =>
    intro m q X Y at1 h1 ho hp
    obtain ⟨o1, o2, o3⟩ := ho
    rw [List.map_cons, List.foldl_cons, List.foldl_cons]
    refine ih m r.b _ _ (n + r.b) (Nat.le_refl _) o3 (fun pos hpos => ?_)
    show sumZ (sumZ (sumZ X (gapZ (n + r.a - at1))) r.z) (gapZ (n + pos - (n + r.b))) = sumZ (sumZ A (gapZ (n - at0))) (sumZ (sumZ (sumZ Y (gapZ (r.a - q))) r.z) (gapZ (pos - r.b)))
    rw [hp r.a o1, show n + pos - (n + r.b) = pos - r.b by omega, sumZ_assoc (sumZ A (gapZ (n - at0))), sumZ_assoc (sumZ A (gapZ (n - at0)))]
/-- The size of two texts is that of both. -/
theorem textZ_append (n m : Nat) (rs rt : List RZ) (h1 : InOrder 0 n rs) (h2 : InOrder 0 m rt) : textZ (n + m) (rs ++ rt.map (shiftZ n)) = sumZ (textZ n rs) (textZ m rt) := by
  unfold textZ
  rw [List.foldl_append]
  have he := inOrder_end ⟨0, 0, 0⟩ h1
  generalize rs.foldl stepZ (⟨0, 0, 0⟩, 0) = st at *
  obtain ⟨A, at0⟩ := st
  refine fold_behind A at0 n he rt m 0 A ⟨0, 0, 0⟩ at0 (by simpa using he) h2 (fun pos _ => ?_)
  rw [Nat.sub_zero, sumZ_zero_gap, ← sumZ_gap]
  have he : at0 ≤ n := he
  rw [show n + pos - at0 = n - at0 + pos by omega]
end Go.Proofs.YtkeclfhhilphpaaDoor
/- The size of two texts with a blank between is the sum of both. Plain; no program in sight. -/
namespace Go.Proofs.YtkeclfhhilphpaaDoor
open Go.Proofs.YtkeclfhhilphpaaDoor.RefPlain
set_option linter.unusedVariables false
def rzOf (f : RefR → Sz) (r : RefR) : RZ := ⟨r.a, r.b, f r⟩
/-- The size of a text, given what each reference costs. -/
def sizeT (f : RefR → Sz) (bs : List Int) : Sz := textZ bs.length ((refsN bs).map (rzOf f))
theorem order_mono {rs : List RZ} : ∀ {i j n : Nat}, i ≤ j → InOrder j n rs → InOrder i n rs := by
  cases rs with
  | nil => intro i j n h ho; exact Nat.le_trans h ho
  | cons r rs => intro i j n h ho; exact ⟨Nat.le_trans h ho.1, ho.2⟩
theorem order_end {rs : List RZ} : ∀ {i n m : Nat}, n ≤ m → InOrder i n rs → InOrder i m rs := by
  induction rs with
  | nil => intro i n m h ho; exact Nat.le_trans ho h
  | cons r rs ih => intro i n m h ho; exact ⟨ho.1, ho.2.1, ih h ho.2.2⟩
theorem order_refs (f : RefR → Sz) (bs : List Int) : ∀ (d i : Nat), bs.length - i = d → i ≤ bs.length → InOrder i bs.length ((refsA bs i).map (rzOf f)) := by
  intro d
  induction d using Nat.strongRecOn with
  | _ d ih =>
    intro i hd hi
    by_cases h : i < bs.length
    · by_cases h0 : (entN bs 38 i).2.2 = 0
      · have hn := entN_next bs i h h0
        rw [refsA_yes bs i h h0, List.map_cons]
        exact ⟨Nat.le_refl _, by show i ≤ _; exact Nat.le_trans (Nat.le_add_right _ _) hn.1, ih (bs.length - (entN bs 38 i).2.1) (by omega) _ rfl hn.2.1⟩
      · rw [refsA_no bs i h h0]
        exact order_mono (Nat.le_succ i) (ih (bs.length - (i + 1)) (by omega) (i + 1) rfl h)
    · rw [refsA_end bs i (by omega)]; exact hi
theorem sizeT_blank (f : RefR → Sz) (hf : ∀ n r, f (shiftR n r) = f r) (v t : List Int) : sizeT f (v ++ 32 :: t) = sumZ (sizeT f (v ++ [32])) (sizeT f t) := by
  have h1 : refsN (v ++ [32]) = refsN v := by rw [refsN_blank]; simp [refsN, refsA, refsF]
  have h2 : ((refsN t).map (shiftR (v.length + 1))).map (rzOf f) = ((refsN t).map (rzOf f)).map (shiftZ (v.length + 1)) := by
    rw [List.map_map, List.map_map]
    refine List.map_congr_left fun r _ => ?_
    show RZ.mk _ _ _ = RZ.mk _ _ _
    rw [hf]; rfl
  have e1 : (v ++ 32 :: t).length = (v.length + 1) + t.length := by rw [List.length_append, List.length_cons]; omega
  have e2 : (v ++ [32]).length = v.length + 1 := by rw [List.length_append]; rfl
  unfold sizeT
  rw [h1, refsN_blank, List.map_append, h2, e1, e2]
  exact textZ_append _ _ _ _ (order_end (Nat.le_succ _) (order_refs f v _ 0 rfl (Nat.zero_le _))) (order_refs f t _ 0 rfl (Nat.zero_le _))
end Go.Proofs.YtkeclfhhilphpaaDoor
/- A map from texts to values, of the call's own, with its values as they are. -/
namespace Go.Proofs.YtkeclfhhilphpaaDoor
open Go.RowKit Go.Maps
set_option linter.unusedVariables false
def heldV (v : Value) : Option (DataW Value × List MemPlace) := some (.held v, [])
theorem lawV : Keyed Tryd.prog 9 := string_keyed Tryd.underlying9
theorem mapV_below {w w' : World} {P : Program} {k : TypeId} {R : Value → Option (DataW Value × List MemPlace)} {b n : Nat} {D : DataW Value} (h : w.ownsMap P k R b n D) (hb : Below w.heap.size w w') : w'.ownsMap P k R b n D := by
  have hlt := h.lt
  obtain ⟨es, clock, h1, r⟩ := h
  exact ⟨es, clock, (hb.block b hlt).trans h1, r⟩
theorem mapV_not_cells {w : World} {P : Program} {k : TypeId} {R : Value → Option (DataW Value × List MemPlace)} {b m g : Nat} {D : DataW Value} {cs : Array Value} {t : TypeId} {f : Nat × Nat} (h : w.ownsMap P k R b m D) (hr : w.heap[g]? = some (.cells cs t f)) : b ≠ g := by
  obtain ⟨es, clock, h1, _⟩ := h
  rintro rfl
  rw [h1] at hr; cases hr
theorem cell_not_map {w : World} {b : Nat} {es : Array MapEntry} {clock : Nat} {a : Addr} {v : Value} (h : w.heap[b]? = some (.map es clock)) (hc : w.cell? a = some v) : a.block ≠ b := by
  rintro rfl
  simp [World.cell?, h] at hc
theorem heldV_inv {v : Value} {y : DataW Value × List MemPlace} (h : heldV v = some y) : y = (.held v, []) := by unfold heldV at h; injection h with h; exact h.symm
theorem keyS_inv {key : Value} {kl : Lit} (h : keyOf Tryd.prog 9 key = some kl) : ∃ s : ByteArray, key = .string s ∧ kl = .string s.data.toList ∧ s.size ≤ maxLen := WideMaps.string_of_keyOf Tryd.underlying9 h
end Go.Proofs.YtkeclfhhilphpaaDoor
/- The contract of cost's deep. Conditions: none. -/
namespace Go.Proofs.YtkeclfhhilphpaaDoor
open Go.RowKit
set_option linter.unusedVariables false
set_option linter.unusedSimpArgs false
def TellZ (c l d : Int) (w : World) (e : Ending) (w' : World) : Prop := e = .returned (.agg #[.int .i64 c, .int .i64 l, .int .i64 d]) ∧ Below w.heap.size w w'
set_option maxRecDepth 100000 in
set_option maxHeartbeats 1500000 in
theorem deep_any (c l d n : Int) (w : World) : Calls Tryd.prog 19 #[.agg #[.int .i64 c, .int .i64 l, .int .i64 d], .int .i64 n] w (TellZ c l (if d < n then n else d) w) := by
  by_cases h : d < n
  · rw [if_pos h]
    go_enter Tryd.func19, Tryd.ntmps19
    go_wp2
    refine bodyPost_ret (v := .agg #[.int .i64 c, .int .i64 l, .int .i64 n]) (by simp [results, Tryd.results19, go_sem] <;> omega) rfl ?_
    exact ⟨rfl, ((Below.refl _ _).alloc (Nat.le_refl _) _).alloc (by simp) _⟩
  · rw [if_neg h]
    go_enter Tryd.func19, Tryd.ntmps19
    go_wp2
    refine bodyPost_ret (v := .agg #[.int .i64 c, .int .i64 l, .int .i64 d]) (by simp [results, Tryd.results19, go_sem] <;> omega) rfl ?_
    exact ⟨rfl, ((Below.refl _ _).alloc (Nat.le_refl _) _).alloc (by simp) _⟩
end Go.Proofs.YtkeclfhhilphpaaDoor
/- Two sizes, compared. -/
namespace Go.Proofs.YtkeclfhhilphpaaDoor
open Go.RowKit
set_option linter.unusedVariables false
set_option linter.unusedSimpArgs false
theorem sizeEq (a b c x y z : Int) (w : World) : (binOp .eql 26 (.agg #[.int .i64 a, .int .i64 b, .int .i64 c]) (.agg #[.int .i64 x, .int .i64 y, .int .i64 z])).run Tryd.prog w = .ok (.bool (decide (a = x) && decide (b = y) && decide (c = z))) w := by
  go_simp
  by_cases h1 : a = x
  · subst h1
    by_cases h2 : b = y
    · subst h2
      by_cases h3 : c = z
      · subst h3; simp
      · simp [h3]
    · simp [h2]
  · simp [h1]
end Go.Proofs.YtkeclfhhilphpaaDoor
/- Blocks of three cells. -/
namespace Go.Proofs.YtkeclfhhilphpaaDoor
open Go.RowKit
set_option linter.unusedVariables false
def Blk3 (w : World) (b : Nat) (t : TypeId) (x y z : Value) : Prop := w.heap[b]? = some (.cells #[x, y, z] t (0, 0))
theorem heapNew3 (w : World) (o : Obj) : (w.alloc o).heap[w.heap.size]? = some o := heap_alloc_new w o
variable {w w' : World} {b : Nat} {t : TypeId} {x y z : Value}
theorem Blk3.lt (h : Blk3 w b t x y z) : b < w.heap.size := (Array.getElem?_eq_some_iff.1 h).1
theorem Blk3.c0 (h : Blk3 w b t x y z) : w.cell? ⟨b, 0, none⟩ = some x := by rw [Lib.cell_of_heap h]; rfl
theorem Blk3.c1 (h : Blk3 w b t x y z) : w.cell? ⟨b, 1, none⟩ = some y := by rw [Lib.cell_of_heap h]; rfl
theorem Blk3.c2 (h : Blk3 w b t x y z) : w.cell? ⟨b, 2, none⟩ = some z := by rw [Lib.cell_of_heap h]; rfl
theorem Blk3.m0 (h : Blk3 w b t x y z) : w.frozen? ⟨b, 0, none⟩ = false := by simp [World.frozen?, show w.heap[b]? = _ from h]
theorem Blk3.m1 (h : Blk3 w b t x y z) : w.frozen? ⟨b, 1, none⟩ = false := by simp [World.frozen?, show w.heap[b]? = _ from h]
theorem Blk3.m2 (h : Blk3 w b t x y z) : w.frozen? ⟨b, 2, none⟩ = false := by simp [World.frozen?, show w.heap[b]? = _ from h]
theorem Blk3.new (w : World) (t : TypeId) (x y z : Value) : Blk3 (w.alloc (.cells #[x, y, z] t)) w.heap.size t x y z := heapNew3 _ _
theorem Blk3.below {n : Nat} (h : Blk3 w b t x y z) (hb : Below n w w') (hn : b < n) : Blk3 w' b t x y z := (hb.block b hn).trans h
theorem Blk3.later (h : Blk3 w b t x y z) (hb : Below w.heap.size w w') : Blk3 w' b t x y z := h.below hb h.lt
theorem Blk3.set0 (h : Blk3 w b t x y z) (u : Value) : Blk3 (w.setCell ⟨b, 0, none⟩ u) b t u y z := by
  obtain ⟨hlt, hk⟩ := Array.getElem?_eq_some_iff.1 h
  show (w.heap.modify b _)[b]? = _
  rw [Array.getElem?_eq_getElem (by rw [Array.size_modify]; exact hlt), Array.getElem_modify_self, hk]
  rfl
theorem Blk3.set1 (h : Blk3 w b t x y z) (u : Value) : Blk3 (w.setCell ⟨b, 1, none⟩ u) b t x u z := by
  obtain ⟨hlt, hk⟩ := Array.getElem?_eq_some_iff.1 h
  show (w.heap.modify b _)[b]? = _
  rw [Array.getElem?_eq_getElem (by rw [Array.size_modify]; exact hlt), Array.getElem_modify_self, hk]
  rfl
theorem Blk3.set2 (h : Blk3 w b t x y z) (u : Value) : Blk3 (w.setCell ⟨b, 2, none⟩ u) b t x y u := by
  obtain ⟨hlt, hk⟩ := Array.getElem?_eq_some_iff.1 h
  show (w.heap.modify b _)[b]? = _
  rw [Array.getElem?_eq_getElem (by rw [Array.size_modify]; exact hlt), Array.getElem_modify_self, hk]
  rfl
theorem Blk3.store (h : Blk3 w b t x y z) (u1 u2 u3 : Value) : Blk3 (((w.setCell ⟨b, 0, none⟩ u1).setCell ⟨b, 1, none⟩ u2).setCell ⟨b, 2, none⟩ u3) b t u1 u2 u3 := ((h.set0 u1).set1 u2).set2 u3
theorem below_store {n : Nat} {w0 : World} (h : Below n w0 w) (hb : n ≤ b) (u1 u2 u3 : Value) : Below n w0 (((w.setCell ⟨b, 0, none⟩ u1).setCell ⟨b, 1, none⟩ u2).setCell ⟨b, 2, none⟩ u3) := ((h.setCell (show n ≤ (⟨b, 0, none⟩ : Addr).block from hb) u1).setCell (show n ≤ (⟨b, 1, none⟩ : Addr).block from hb) u2).setCell (show n ≤ (⟨b, 2, none⟩ : Addr).block from hb) u3
theorem store3_far {k i : Nat} {v : Value} (h : w.cell? ⟨k, i, none⟩ = some v) (hne : b ≠ k) (u1 u2 u3 : Value) : (((w.setCell ⟨b, 0, none⟩ u1).setCell ⟨b, 1, none⟩ u2).setCell ⟨b, 2, none⟩ u3).cell? ⟨k, i, none⟩ = some v := by
  rw [World.cell?_setCell_far _ _ _ _ hne, World.cell?_setCell_far _ _ _ _ hne, World.cell?_setCell_far _ _ _ _ hne, h]
end Go.Proofs.YtkeclfhhilphpaaDoor
/- Plain arithmetic of held numbers (no program in sight): sums, products and powers that stop at the greatest int64. -/
namespace Go.Proofs.YtkeclfhhilphpaaDoor.SatPlain

/-- The greatest number, behind a name. -/
def cap : Int := 9223372036854775807
/-- 0 at least. -/
def holdS (a : Int) : Int := max a 0
def addS (a b : Int) : Int := min (holdS a + holdS b) cap
def subS (a b : Int) : Int := holdS (holdS a - holdS b)
def mulS (a b : Int) : Int := min (holdS a * holdS b) cap
def sumS : List Int → Int
  | [] => 0
  | x :: r => addS x (sumS r)
/-- A power, held. -/
def powS (a : Int) : Nat → Int
  | 0 => 1
  | n + 1 => mulS (powS a n) a

theorem holdS_b (a : Int) (h : a ≤ 9223372036854775807) : 0 ≤ holdS a ∧ holdS a ≤ 9223372036854775807 := by unfold holdS; omega
theorem holdS_0 (a : Int) : 0 ≤ holdS a := by unfold holdS; omega
theorem holdS_of (a : Int) (h : 0 ≤ a) : holdS a = a := by unfold holdS; omega
theorem addS_b (a b : Int) : 0 ≤ addS a b ∧ addS a b ≤ 9223372036854775807 := by
  have := holdS_0 a; have := holdS_0 b; unfold addS cap; omega
theorem subS_b (a b : Int) (ha : a ≤ 9223372036854775807) : 0 ≤ subS a b ∧ subS a b ≤ 9223372036854775807 := by
  have := holdS_0 a; have := holdS_0 b; unfold subS holdS; omega
theorem mulS_b (a b : Int) : 0 ≤ mulS a b ∧ mulS a b ≤ 9223372036854775807 := by
  have := Int.mul_nonneg (holdS_0 a) (holdS_0 b); unfold mulS cap; omega
theorem holdS_addS (a b : Int) : holdS (addS a b) = addS a b := holdS_of _ (addS_b a b).1
theorem holdS_mulS (a b : Int) : holdS (mulS a b) = mulS a b := holdS_of _ (mulS_b a b).1
theorem addS_comm (a b : Int) : addS a b = addS b a := by unfold addS; omega
theorem mulS_comm (a b : Int) : mulS a b = mulS b a := by unfold mulS; rw [Int.mul_comm]
theorem addS_assoc (a b c : Int) : addS (addS a b) c = addS a (addS b c) := by
  have ha := holdS_0 a; have hb := holdS_0 b; have hc := holdS_0 c
  have h1 := holdS_addS a b; have h2 := holdS_addS b c
  unfold addS at *; rw [h1, h2]; unfold cap; omega
/-- A held factor serves as well as the whole one. -/
theorem min_mul_left (x y : Int) (hx : 0 ≤ x) : min (x * min y cap) cap = min (x * y) cap := by
  by_cases h : y ≤ cap
  · rw [show min y cap = y from by omega]
  · have hc : (0 : Int) ≤ cap := by unfold cap; omega
    rw [show min y cap = cap from by omega]
    by_cases h0 : x = 0
    · subst h0; rw [Int.zero_mul, Int.zero_mul]
    · have h1 : cap ≤ x * cap := by
        have := Int.mul_le_mul_of_nonneg_right (show 1 ≤ x by omega) hc; omega
      have h2 : cap ≤ x * y := by
        have := Int.mul_le_mul_of_nonneg_left (show cap ≤ y by omega) hx; omega
      omega
theorem mulS_assoc (a b c : Int) : mulS (mulS a b) c = mulS a (mulS b c) := by
  have ha := holdS_0 a; have hb := holdS_0 b; have hc := holdS_0 c
  have h1 := holdS_mulS a b; have h2 := holdS_mulS b c
  have e1 : mulS (mulS a b) c = min (holdS a * holdS b * holdS c) cap := by
    rw [mulS_comm]; unfold mulS at *; rw [h1]
    rw [min_mul_left _ _ hc, Int.mul_comm]
  have e2 : mulS a (mulS b c) = min (holdS a * (holdS b * holdS c)) cap := by
    unfold mulS at *; rw [h2]
    rw [min_mul_left _ _ ha]
  rw [e1, e2, Int.mul_assoc]
theorem mulS_addS (a b c : Int) : mulS a (addS b c) = addS (mulS a b) (mulS a c) := by
  have ha := holdS_0 a; have hb := holdS_0 b; have hc := holdS_0 c
  have e1 : mulS a (addS b c) = min (holdS a * (holdS b + holdS c)) cap := by
    have h1 := holdS_addS b c
    unfold mulS addS at *; rw [h1, min_mul_left _ _ ha]
  have h1 := holdS_mulS a b; have h2 := holdS_mulS a c
  have p1 := Int.mul_nonneg ha hb; have p2 := Int.mul_nonneg ha hc
  rw [e1, Int.mul_add]
  unfold addS; rw [h1, h2]; unfold mulS; unfold cap; omega
theorem addS_zero (a : Int) (h0 : 0 ≤ a) (h : a ≤ 9223372036854775807) : addS 0 a = a := by
  unfold addS holdS cap; omega
theorem addS_ge_left (a b : Int) (h : a ≤ 9223372036854775807) : holdS a ≤ addS a b := by
  have := holdS_0 a; have := holdS_0 b; have := holdS_b a h; unfold addS cap; omega
theorem subS_le (a b : Int) : subS a b ≤ holdS a := by
  have := holdS_0 a; have := holdS_0 b; unfold subS; unfold holdS at *; omega
theorem sumS_b (l : List Int) : 0 ≤ sumS l ∧ sumS l ≤ 9223372036854775807 := by
  cases l with
  | nil => simp [sumS]
  | cons x r => exact addS_b _ _
theorem sumS_append (l m : List Int) : sumS (l ++ m) = addS (sumS l) (sumS m) := by
  induction l with
  | nil => simp [sumS]; rw [addS_zero _ (sumS_b m).1 (sumS_b m).2]
  | cons x r ih => simp [sumS]; rw [ih, addS_assoc]
theorem sumS_snoc (l : List Int) (x : Int) : sumS (l ++ [x]) = addS (sumS l) x := by
  rw [sumS_append]; show addS (sumS l) (addS x 0) = addS (sumS l) x
  have e : addS x 0 = min (holdS x) cap := by unfold addS holdS cap; omega
  have h0 := holdS_0 x; have := holdS_0 (sumS l)
  rw [e]
  generalize sumS l = s at *
  unfold addS; rw [holdS_of (min (holdS x) cap) (by unfold cap; omega)]; unfold cap; omega
theorem powS_b (a : Int) (n : Nat) : 0 ≤ powS a n ∧ powS a n ≤ 9223372036854775807 := by
  cases n with
  | zero => simp [powS]
  | succ n => exact mulS_b _ _
theorem powS_zero (a : Int) : powS a 0 = 1 := rfl
theorem powS_succ (a : Int) (n : Nat) : powS a (n + 1) = mulS (powS a n) a := rfl
theorem mulS_one (a : Int) (h0 : 0 ≤ a) (h : a ≤ 9223372036854775807) : mulS 1 a = a := by
  unfold mulS; rw [holdS_of a h0, holdS_of 1 (by omega)]; unfold cap; omega
/-- Where a further factor changes nothing, no more of them do. -/
theorem powS_stop (a : Int) (n : Nat) (h : mulS (powS a n) a = powS a n) (k : Nat) : powS a (n + k) = powS a n := by
  induction k with
  | zero => rfl
  | succ k ih => rw [← Nat.add_assoc, powS_succ, ih, h]
theorem mulS_holdS (a b : Int) : mulS a (holdS b) = mulS a b := by
  unfold mulS; rw [holdS_of (holdS b) (holdS_0 b)]
/-- By squares: an even power, an odd one. -/
theorem powS_sq (a : Int) (n : Nat) : powS (mulS a a) n = powS a (2 * n) := by
  induction n with
  | zero => rfl
  | succ n ih =>
    rw [powS_succ, ih, show 2 * (n + 1) = 2 * n + 1 + 1 from by omega, powS_succ, powS_succ, mulS_assoc]
theorem powS_add (a : Int) (m n : Nat) : powS a (m + n) = mulS (powS a m) (powS a n) := by
  induction n with
  | zero =>
    rw [powS_zero, mulS_comm]
    exact (mulS_one _ (powS_b a m).1 (powS_b a m).2).symm
  | succ n ih => rw [← Nat.add_assoc, powS_succ, powS_succ, ih, mulS_assoc]
theorem sq_even (o a : Int) (n : Nat) : mulS o (powS a (2 * n)) = mulS o (powS (mulS a a) n) := by rw [powS_sq]
theorem sq_odd (o a : Int) (n : Nat) : mulS o (powS a (2 * n + 1)) = mulS (mulS o a) (powS (mulS a a) n) := by
  rw [powS_sq, powS_succ, mulS_assoc, mulS_comm a]
/-- The product bit by bit: what the highest bits of x make, times y, held. -/
def bitS (x y : Int) (k : Nat) : Int := min ((x / 2 ^ k) * y) cap
theorem bitS_top (x y : Int) (h0 : 0 ≤ x) (h : x ≤ 9223372036854775807) : bitS x y 63 = 0 := by
  unfold bitS
  have : x / 2 ^ 63 = 0 := Int.ediv_eq_zero_of_lt h0 (by omega)
  rw [this, Int.zero_mul]; unfold cap; omega
theorem bitS_zero (x y : Int) : bitS x y 0 = min (x * y) cap := by unfold bitS; simp
theorem bitS_b (x y : Int) (k : Nat) (hx : 0 ≤ x) (hy : 0 ≤ y) : 0 ≤ bitS x y k ∧ bitS x y k ≤ 9223372036854775807 := by
  have h1 : 0 ≤ x / 2 ^ k := Int.ediv_nonneg hx (Int.le_of_lt (Int.pow_pos (by omega)))
  have := Int.mul_nonneg h1 hy
  unfold bitS cap; omega
theorem div_step (x : Int) (k : Nat) : x / 2 ^ k = 2 * (x / 2 ^ (k + 1)) + (x / 2 ^ k) % 2 := by
  have : x / 2 ^ (k + 1) = (x / 2 ^ k) / 2 := by
    rw [Int.pow_succ, Int.ediv_ediv_of_nonneg (Int.le_of_lt (Int.pow_pos (by omega)))]
  rw [this]; omega
theorem bitS_even (x y : Int) (k : Nat) (hx : 0 ≤ x) (hy : 0 ≤ y) (h : (x / 2 ^ k) % 2 = 0) : addS (bitS x y (k + 1)) (bitS x y (k + 1)) = bitS x y k := by
  have hb := bitS_b x y (k + 1) hx hy
  have e := div_step x k
  rw [h] at e
  have h1 : 0 ≤ x / 2 ^ (k + 1) := Int.ediv_nonneg hx (Int.le_of_lt (Int.pow_pos (by omega)))
  have hm := Int.mul_nonneg h1 hy
  unfold addS; rw [holdS_of _ hb.1]; unfold bitS; rw [e, Int.add_zero, Int.mul_assoc]; unfold cap; omega
theorem bitS_odd (x y : Int) (k : Nat) (hx : 0 ≤ x) (hy : 0 ≤ y) (h : (x / 2 ^ k) % 2 = 1) : addS (addS (bitS x y (k + 1)) (bitS x y (k + 1))) y = bitS x y k := by
  have hb := bitS_b x y (k + 1) hx hy
  have e := div_step x k
  rw [h] at e
  have h1 : 0 ≤ x / 2 ^ (k + 1) := Int.ediv_nonneg hx (Int.le_of_lt (Int.pow_pos (by omega)))
  have hm := Int.mul_nonneg h1 hy
  have hd := addS_b (bitS x y (k + 1)) (bitS x y (k + 1))
  have : addS (bitS x y (k + 1)) (bitS x y (k + 1)) = min (2 * (x / 2 ^ (k + 1) * y)) cap := by
    unfold addS; rw [holdS_of _ hb.1]; unfold bitS; unfold cap; omega
  rw [this]; rw [this] at hd
  unfold addS; rw [holdS_of _ hd.1, holdS_of y hy]; unfold bitS; rw [e, Int.add_mul, Int.mul_assoc]; unfold cap; omega
end Go.Proofs.YtkeclfhhilphpaaDoor.SatPlain
/- The contracts of layer 1 (sat) and of its reference, for texts that have RetI and IntsAt already (made of SatCalls, SatMore, SatSums). Conditions: integer arguments fit int64. -/
namespace Go.Proofs.YtkeclfhhilphpaaDoor
open Go.RowKit Go.Proofs.YtkeclfhhilphpaaDoor.SatPlain
theorem hold_any (a : Int) (w : World) : Calls Tryd.prog 18 #[.int .i64 a] w (RetI (holdS a) w) := by
  go_enter Tryd.func18, Tryd.ntmps18
  go_wp2
  all_goals
    go_ret
    exact ⟨ret_int (by unfold holdS; omega), rfl⟩
theorem rhold_any (a : Int) (w : World) : Calls Tryd.prog 40 #[.int .i64 a] w (RetI (holdS a) w) := by
  go_enter Tryd.func40, Tryd.ntmps40
  go_wp2
  all_goals
    go_ret
    exact ⟨ret_int (by unfold holdS; omega), rfl⟩
set_option maxHeartbeats 400000 in
theorem add_any (a b : Int) (w : World) (ha : a ≤ 9223372036854775807) (hb : b ≤ 9223372036854775807) :
    Calls Tryd.prog 20 #[.int .i64 a, .int .i64 b] w (RetI (addS a b) w) := by
  have h1 := holdS_b a ha
  have h2 := holdS_b b hb
  go_enter Tryd.func20, Tryd.ntmps20
  go_wp2_with (go_at_call 18; refine (hold_any _ _).mono ?_; rintro e w' ⟨rfl, rfl⟩)
  all_goals
    go_ret
    exact ⟨ret_int (by unfold addS cap; omega), rfl⟩
set_option maxHeartbeats 400000 in
theorem radd_any (a b : Int) (w : World) (ha : a ≤ 9223372036854775807) (hb : b ≤ 9223372036854775807) :
    Calls Tryd.prog 31 #[.int .i64 a, .int .i64 b] w (RetI (addS a b) w) := by
  have h1 := holdS_b a ha
  have h2 := holdS_b b hb
  go_enter Tryd.func31, Tryd.ntmps31
  go_wp2_with (go_at_call 40; refine (rhold_any _ _).mono ?_; rintro e w' ⟨rfl, rfl⟩)
  all_goals
    go_ret
    exact ⟨ret_int (by unfold addS cap; omega), rfl⟩
/-- What a product's words are, for the walk. -/
theorem mul_words (x y : Int) (hx : 0 ≤ x) (hy : 0 ≤ y) :
    ∃ h l : Int, x * y / 18446744073709551616 = h ∧ x * y % 18446744073709551616 = l ∧ 0 ≤ h ∧ 0 ≤ l ∧ l ≤ 18446744073709551615 ∧
      (h = 0 → min (x * y) cap = min l cap) ∧ (h ≠ 0 → min (x * y) cap = cap) := by
  have hp := Int.mul_nonneg hx hy
  exact ⟨_, _, rfl, rfl, by omega, by omega, by omega, fun h => by unfold cap; omega, fun h => by unfold cap; omega⟩
theorem take_succ' {α : Type} {l : List α} {k : Nat} {z : α} (h : l[k]? = some z) : l.take (k + 1) = l.take k ++ [z] := by
  rw [List.take_add_one, h]; rfl
theorem sum_take_succ {zs : List Int} {k : Nat} {z : Int} (h : zs[k]? = some z) : sumS (zs.take (k + 1)) = addS (sumS (zs.take k)) z := by
  rw [take_succ' h, sumS_snoc]
end Go.Proofs.YtkeclfhhilphpaaDoor
/- The contract of cost.Sum. Conditions: sizes from 0 to the greatest number. -/
namespace Go.Proofs.YtkeclfhhilphpaaDoor
open Go.RowKit Go.Proofs.YtkeclfhhilphpaaDoor.SatPlain
set_option linter.unusedVariables false
set_option linter.unusedSimpArgs false
def Sz.v (a : Sz) : Value := .agg #[.int .i64 a.c, .int .i64 a.l, .int .i64 a.d]
structure Sz.ok (a : Sz) : Prop where
  c : a.c ≤ MX
  l : a.l ≤ MX
  d : a.d ≤ MX
def TellSz (a : Sz) (w : World) (e : Ending) (w' : World) : Prop := e = .returned a.v ∧ Below w.heap.size w w'
theorem addS_nat {a b : Nat} : addS (a : Int) (b : Int) = (addM a b : Nat) := by
  unfold addS addM MX holdS cap
  omega
theorem holdS_nat {a : Nat} : holdS (a : Int) = (a : Nat) := by
  unfold holdS
  omega
theorem MX_int {n : Nat} (h : n ≤ MX) : (n : Int) ≤ 9223372036854775807 := by unfold MX at h; omega
theorem add_nat (a b : Nat) (w : World) (ha : (a : Int) ≤ 9223372036854775807) (hb : (b : Int) ≤ 9223372036854775807) : Calls Tryd.prog 20 #[.int .i64 (a : Int), .int .i64 (b : Int)] w (RetI (addM a b : Nat) w) := by
  have h := add_any (a : Int) (b : Int) w ha hb
  rwa [addS_nat] at h
theorem hold_nat (a : Nat) (w : World) : Calls Tryd.prog 18 #[.int .i64 (a : Int)] w (RetI (a : Nat) w) := by
  have h := hold_any (a : Int) w
  rwa [holdS_nat] at h
theorem sumWorld (w : World) (t : TypeId) (x0 x1 x2 y0 y1 y2 z0 z1 z2 : Value) : ∃ W, ((w.alloc (.cells #[x0, x1, x2] t)).alloc (.cells #[y0, y1, y2] t)).alloc (.cells #[z0, z1, z2] t) = W ∧ W.heap.size = w.heap.size + 3 ∧ Below w.heap.size w W ∧
    W.cell? ⟨w.heap.size, 0, none⟩ = some x0 ∧ W.cell? ⟨w.heap.size, 1, none⟩ = some x1 ∧ W.cell? ⟨w.heap.size, 2, none⟩ = some x2 ∧ Blk3 W (w.heap.size + 1 + 1) t z0 z1 z2 := by
  refine ⟨_, rfl, ?_, ?_, ?_, ?_, ?_, ?_⟩
  · simp
  · exact (((Below.refl _ _).alloc (by simp) _).alloc (by simp) _).alloc (by simp; omega) _
  · go_simp
  · go_simp
  · go_simp
  · have h := Blk3.new ((w.alloc (.cells #[x0, x1, x2] t)).alloc (.cells #[y0, y1, y2] t)) t z0 z1 z2
    simpa using h
set_option maxHeartbeats 4000000 in
theorem sum_any (a b : Sz) (w : World) (ha : a.ok) (hb : b.ok) : Calls Tryd.prog 9 #[a.v, b.v] w (TellSz (sumZ a b) w) := by
  obtain ⟨ac, al, ad⟩ := a
  obtain ⟨bc, bl, bd⟩ := b
  have hac := MX_int ha.c
  have hal := MX_int ha.l
  have had := MX_int ha.d
  have hbc := MX_int hb.c
  have hbl := MX_int hb.l
  have hbd := MX_int hb.d
  have E := sizeEq (bc : Int) (bl : Int) (bd : Int) 0 0 0
  generalize hq : (decide ((bc : Int) = 0) && decide ((bl : Int) = 0) && decide ((bd : Int) = 0)) = q at E
  show Calls Tryd.prog _ #[.agg #[.int .i64 (ac : Int), .int .i64 (al : Int), .int .i64 (ad : Int)], .agg #[.int .i64 (bc : Int), .int .i64 (bl : Int), .int .i64 (bd : Int)]] w _
  cases q with
  | true =>
    have hz : bc = 0 ∧ bl = 0 ∧ bd = 0 := by simp at hq; omega
    obtain ⟨rfl, rfl, rfl⟩ := hz
    have Z := Lib.hid (show sumZ ⟨ac, al, ad⟩ ⟨0, 0, 0⟩ = ⟨ac, al, ad⟩ from Sz.ext' (by show min (ac + 0) MX = ac; have := ha.c; simp at this; omega) (by show min (al + 0) MX = al; have := ha.l; simp at this; omega) (by show max ad 0 = ad; omega))
    have D := Lib.hid (deep_any (ac : Int) al ad 0)
    rw [if_neg (by omega)] at D
    clear hq ha hb
    go_enter Tryd.func9, Tryd.ntmps9
    go_wp2_with fail
    obtain ⟨W, hW, hsz, hBW, c0, c1, c2, hbl⟩ := sumWorld w 26 (.int .i64 ac) (.int .i64 al) (.int .i64 ad) (.int .i64 0) (.int .i64 0) (.int .i64 0) (.int .i64 0) (.int .i64 0) (.int .i64 0)
    rw [hW]
    clear hW
    have hcc := And.intro c0 (And.intro c1 c2)
    have RB := Lib.hid (fun V (hB : Below W.drew.heap.size W.drew V) => (show Blk3 V (w.heap.size + 1 + 1) 26 (.int .i64 0) (.int .i64 0) (.int .i64 0) from (show Blk3 W.drew (w.heap.size + 1 + 1) 26 (.int .i64 0) (.int .i64 0) (.int .i64 0) from hbl).below hB (by show w.heap.size + 1 + 1 < W.heap.size; omega)))
    clear hbl
    have HB := Lib.hid hBW.drew
    clear hBW
    go_region_held3 (fun V => V.cell? ⟨w.heap.size, 0, none⟩ = some (.int .i64 ac) ∧ V.cell? ⟨w.heap.size, 1, none⟩ = some (.int .i64 al) ∧ V.cell? ⟨w.heap.size, 2, none⟩ = some (.int .i64 ad)) (first | exact hcc | exact ⟨store3_far hcc.1 (by omega) _ _ _, store3_far hcc.2.1 (by omega) _ _ _, store3_far hcc.2.2 (by omega) _ _ _⟩) (first | (go_at_call 18; refine (hold_nat _ _).mono ?_; rintro e w' ⟨rfl, rfl⟩) | (go_at_call 19; refine (D.out _).mono ?_; rintro e w' ⟨rfl, hB⟩; have hcc := And.intro ((hB.cell (p := ⟨w.heap.size, 0, none⟩) (by show w.heap.size < W.heap.size; omega)).trans hcc.1) (And.intro ((hB.cell (p := ⟨w.heap.size, 1, none⟩) (by show w.heap.size < W.heap.size; omega)).trans hcc.2.1) ((hB.cell (p := ⟨w.heap.size, 2, none⟩) (by show w.heap.size < W.heap.size; omega)).trans hcc.2.2)); have bV := RB.out _ hB; have r0 := bV.c0; have r1 := bV.c1; have r2 := bV.c2; have n0 := bV.m0; have n1 := bV.m1; have n2 := bV.m2; have hbV := Lib.hid bV; have hBV := Lib.hid (HB.out.trans (hB.mono HB.out.size)); clear bV hB))
    all_goals
      go_wp2
      rw [Z.out]
      have bE := hbV.out.store (.int .i64 ac) (.int .i64 al) (.int .i64 ad)
      have HE := below_store (b := w.heap.size + 1 + 1) hBV.out (by omega) (.int .i64 ac) (.int .i64 al) (.int .i64 ad)
      generalize (((w'.setCell ⟨w.heap.size + 1 + 1, 0, none⟩ (.int .i64 ac)).setCell ⟨w.heap.size + 1 + 1, 1, none⟩ (.int .i64 al)).setCell ⟨w.heap.size + 1 + 1, 2, none⟩ (.int .i64 ad)) = V at bE HE ⊢
      have c0 := bE.c0
      have c1 := bE.c1
      have c2 := bE.c2
      refine bodyPost_ret (v := (⟨ac, al, ad⟩ : Sz).v) (by simp [results, Tryd.results9, go_sem, c0, c1, c2]; rfl) rfl ?_
      exact ⟨rfl, HE⟩
  | false =>
    clear hq ha hb
    go_enter Tryd.func9, Tryd.ntmps9
    go_wp2_with fail
    go_region_held3 (fun W => W.cell? ⟨w.heap.size, 0, none⟩ = some (.int .i64 ac) ∧ W.cell? ⟨w.heap.size, 1, none⟩ = some (.int .i64 al) ∧ W.cell? ⟨w.heap.size, 2, none⟩ = some (.int .i64 ad) ∧ W.cell? ⟨w.heap.size + 1, 0, none⟩ = some (.int .i64 bc) ∧ W.cell? ⟨w.heap.size + 1, 1, none⟩ = some (.int .i64 bl) ∧ W.cell? ⟨w.heap.size + 1, 2, none⟩ = some (.int .i64 bd)) (first | exact hK | exact ⟨rfl, rfl, rfl, rfl, rfl, rfl⟩ | go_keep) (first | (go_at_call 20; refine (add_nat _ _ _ (by assumption) (by assumption)).mono ?_; rintro e w' ⟨rfl, rfl⟩))
    all_goals
      have hmax : max (ad : Int) bd = ((max ad bd : Nat) : Int) := by omega
      go_wp2
      rw [hmax]
      refine bodyPost_ret (v := (sumZ ⟨ac, al, ad⟩ ⟨bc, bl, bd⟩).v) (by simp [results, Tryd.results9, go_sem]; rfl) rfl ?_
      exact ⟨rfl, ((((Below.refl _ _).alloc (by simp) _).alloc (by simp) _).alloc (by simp; omega) _).drew⟩
end Go.Proofs.YtkeclfhhilphpaaDoor
/- cref.Known, and the reference's: the entities that are always known. Conditions: the table holds what the text gives it. -/
namespace Go.Proofs.YtkeclfhhilphpaaDoor
open Go.RowKit
set_option linter.unusedVariables false
set_option linter.unusedSimpArgs false
def knownCells : List Value := [.string ⟨#[108, 116]⟩, .int .i64 60, .string ⟨#[103, 116]⟩, .int .i64 62, .string ⟨#[97, 109, 112]⟩, .int .i64 38, .string ⟨#[97, 112, 111, 115]⟩, .int .i64 39, .string ⟨#[113, 117, 111, 116]⟩, .int .i64 34]
structure KnownAt (w : World) : Prop where
  cell : ∀ i v, knownCells[i]? = some v → w.cell? ⟨0, i, none⟩ = some v
  size : 0 < w.heap.size
theorem KnownAt.below {w w' : World} (h : KnownAt w) {B : Nat} (hb : Below B w w') (hB : 0 < B) : KnownAt w' :=
  ⟨fun i v hv => (hb.cell (p := ⟨0, i, none⟩) hB).trans (h.cell i v hv), Nat.lt_of_lt_of_le h.size hb.size⟩
theorem KnownAt.later {w w' : World} (h : KnownAt w) (hb : Below w.heap.size w w') : KnownAt w' := h.below hb h.size
/-- The character of a name; 0: it is not known. -/
def knownN (s : ByteArray) : Int :=
  if s = ⟨#[108, 116]⟩ then 60 else if s = ⟨#[103, 116]⟩ then 62 else if s = ⟨#[97, 109, 112]⟩ then 38 else if s = ⟨#[97, 112, 111, 115]⟩ then 39 else if s = ⟨#[113, 117, 111, 116]⟩ then 34 else 0
theorem knownN_pos (s : ByteArray) : knownN s = 0 ∨ 0 < knownN s := by
  unfold knownN
  repeat' split
  all_goals omega
def TellKnown (s : ByteArray) (w : World) (e : Ending) (w' : World) : Prop := e = .returned (.tuple #[.int .i64 (knownN s), .bool (decide (0 < knownN s))]) ∧ Below w.heap.size w w'
theorem tl_fact {s : ByteArray} {l : List UInt8} (h : ¬ s = ⟨l.toArray⟩) : (s.toList == l) = false := by
  have h2 := sL_no h
  have e : (⟨l.toArray⟩ : ByteArray).toList = l := by
    apply List.ext_getElem?
    intro i
    simp
  rwa [e] at h2
theorem tl_same {s : ByteArray} {l : List UInt8} (h : s = ⟨l.toArray⟩) : (s.toList == l) = true := by
  subst h
  have e : (⟨l.toArray⟩ : ByteArray).toList = l := by
    apply List.ext_getElem?
    intro i
    simp
  rw [e]; simp
inductive KnownOr (s : ByteArray) : Prop
  | k0 : (s.toList == [108, 116]) = true → knownN s = 60 → KnownOr s
  | k1 : (s.toList == [108, 116]) = false → (s.toList == [103, 116]) = true → knownN s = 62 → KnownOr s
  | k2 : (s.toList == [108, 116]) = false → (s.toList == [103, 116]) = false → (s.toList == [97, 109, 112]) = true → knownN s = 38 → KnownOr s
  | k3 : (s.toList == [108, 116]) = false → (s.toList == [103, 116]) = false → (s.toList == [97, 109, 112]) = false → (s.toList == [97, 112, 111, 115]) = true → knownN s = 39 → KnownOr s
  | k4 : (s.toList == [108, 116]) = false → (s.toList == [103, 116]) = false → (s.toList == [97, 109, 112]) = false → (s.toList == [97, 112, 111, 115]) = false → (s.toList == [113, 117, 111, 116]) = true → knownN s = 34 → KnownOr s
  | k5 : (s.toList == [108, 116]) = false → (s.toList == [103, 116]) = false → (s.toList == [97, 109, 112]) = false → (s.toList == [97, 112, 111, 115]) = false → (s.toList == [113, 117, 111, 116]) = false → knownN s = 0 → KnownOr s
theorem knownOr (s : ByteArray) : KnownOr s := by
  by_cases h0 : s = ⟨#[108, 116]⟩
  · exact .k0  (tl_same h0) (by unfold knownN; rw [if_pos h0])
  by_cases h1 : s = ⟨#[103, 116]⟩
  · exact .k1 (tl_fact h0) (tl_same h1) (by unfold knownN; rw [if_neg h0, if_pos h1])
  by_cases h2 : s = ⟨#[97, 109, 112]⟩
  · exact .k2 (tl_fact h0) (tl_fact h1) (tl_same h2) (by unfold knownN; rw [if_neg h0, if_neg h1, if_pos h2])
  by_cases h3 : s = ⟨#[97, 112, 111, 115]⟩
  · exact .k3 (tl_fact h0) (tl_fact h1) (tl_fact h2) (tl_same h3) (by unfold knownN; rw [if_neg h0, if_neg h1, if_neg h2, if_pos h3])
  by_cases h4 : s = ⟨#[113, 117, 111, 116]⟩
  · exact .k4 (tl_fact h0) (tl_fact h1) (tl_fact h2) (tl_fact h3) (tl_same h4) (by unfold knownN; rw [if_neg h0, if_neg h1, if_neg h2, if_neg h3, if_pos h4])
  exact .k5 (tl_fact h0) (tl_fact h1) (tl_fact h2) (tl_fact h3) (tl_fact h4) (by unfold knownN; rw [if_neg h0, if_neg h1, if_neg h2, if_neg h3, if_neg h4])
theorem knownIdx0 (w : World) : (Instr.index 100 (.agg #[.string ⟨#[108, 116]⟩, .int .i64 60, .string ⟨#[103, 116]⟩, .int .i64 62, .string ⟨#[97, 109, 112]⟩, .int .i64 38, .string ⟨#[97, 112, 111, 115]⟩, .int .i64 39, .string ⟨#[113, 117, 111, 116]⟩, .int .i64 34]) (.int .i64 0)).run Tryd.prog w = .ok (.agg #[.string ⟨#[108, 116]⟩, .int .i64 60]) w := by kernel_rfl
theorem knownIdx1 (w : World) : (Instr.index 100 (.agg #[.string ⟨#[108, 116]⟩, .int .i64 60, .string ⟨#[103, 116]⟩, .int .i64 62, .string ⟨#[97, 109, 112]⟩, .int .i64 38, .string ⟨#[97, 112, 111, 115]⟩, .int .i64 39, .string ⟨#[113, 117, 111, 116]⟩, .int .i64 34]) (.int .i64 1)).run Tryd.prog w = .ok (.agg #[.string ⟨#[103, 116]⟩, .int .i64 62]) w := by kernel_rfl
theorem knownIdx2 (w : World) : (Instr.index 100 (.agg #[.string ⟨#[108, 116]⟩, .int .i64 60, .string ⟨#[103, 116]⟩, .int .i64 62, .string ⟨#[97, 109, 112]⟩, .int .i64 38, .string ⟨#[97, 112, 111, 115]⟩, .int .i64 39, .string ⟨#[113, 117, 111, 116]⟩, .int .i64 34]) (.int .i64 2)).run Tryd.prog w = .ok (.agg #[.string ⟨#[97, 109, 112]⟩, .int .i64 38]) w := by kernel_rfl
theorem knownIdx3 (w : World) : (Instr.index 100 (.agg #[.string ⟨#[108, 116]⟩, .int .i64 60, .string ⟨#[103, 116]⟩, .int .i64 62, .string ⟨#[97, 109, 112]⟩, .int .i64 38, .string ⟨#[97, 112, 111, 115]⟩, .int .i64 39, .string ⟨#[113, 117, 111, 116]⟩, .int .i64 34]) (.int .i64 3)).run Tryd.prog w = .ok (.agg #[.string ⟨#[97, 112, 111, 115]⟩, .int .i64 39]) w := by kernel_rfl
theorem knownIdx4 (w : World) : (Instr.index 100 (.agg #[.string ⟨#[108, 116]⟩, .int .i64 60, .string ⟨#[103, 116]⟩, .int .i64 62, .string ⟨#[97, 109, 112]⟩, .int .i64 38, .string ⟨#[97, 112, 111, 115]⟩, .int .i64 39, .string ⟨#[113, 117, 111, 116]⟩, .int .i64 34]) (.int .i64 4)).run Tryd.prog w = .ok (.agg #[.string ⟨#[113, 117, 111, 116]⟩, .int .i64 34]) w := by kernel_rfl
set_option maxHeartbeats 4000000 in
theorem known_any (s : ByteArray) (w : World) (hk : KnownAt w) : Calls Tryd.prog 36 #[.string s] w (TellKnown s w) := by
  have c0 := hk.cell 0 _ rfl
  have c1 := hk.cell 1 _ rfl
  have c2 := hk.cell 2 _ rfl
  have c3 := hk.cell 3 _ rfl
  have c4 := hk.cell 4 _ rfl
  have c5 := hk.cell 5 _ rfl
  have c6 := hk.cell 6 _ rfl
  have c7 := hk.cell 7 _ rfl
  have c8 := hk.cell 8 _ rfl
  have c9 := hk.cell 9 _ rfl
  have hs := hk.size
  clear hk
  have i0 := knownIdx0
  have i1 := knownIdx1
  have i2 := knownIdx2
  have i3 := knownIdx3
  have i4 := knownIdx4
  cases knownOr s with
  | k0 h0 hn =>
    have f0 := (BEq.comm (a := [108, 116]) (b := s.toList)).trans h0
    clear h0
    have HN := Lib.hid hn
    clear hn
    go_enter Tryd.func36, Tryd.ntmps36
    go_wp2
    refine wp_loop_rounds 1 ?_
    rw [rounds_succ]; go_wp2
    go_ret2
    exact ⟨by rw [HN.out]; rfl, ((Below.refl _ _).alloc (by first | (simp; done) | (simp; omega)) _)⟩
  | k1 h0 h1 hn =>
    have f0 := (BEq.comm (a := [108, 116]) (b := s.toList)).trans h0
    have f1 := (BEq.comm (a := [103, 116]) (b := s.toList)).trans h1
    clear h0 h1
    have HN := Lib.hid hn
    clear hn
    go_enter Tryd.func36, Tryd.ntmps36
    go_wp2
    refine wp_loop_rounds 2 ?_
    rw [rounds_succ]; go_wp2
    rw [rounds_succ]; go_wp2
    go_ret2
    exact ⟨by rw [HN.out]; rfl, (((Below.refl _ _).alloc (by first | (simp; done) | (simp; omega)) _).alloc (by first | (simp; done) | (simp; omega)) _)⟩
  | k2 h0 h1 h2 hn =>
    have f0 := (BEq.comm (a := [108, 116]) (b := s.toList)).trans h0
    have f1 := (BEq.comm (a := [103, 116]) (b := s.toList)).trans h1
    have f2 := (BEq.comm (a := [97, 109, 112]) (b := s.toList)).trans h2
    clear h0 h1 h2
    have HN := Lib.hid hn
    clear hn
    go_enter Tryd.func36, Tryd.ntmps36
    go_wp2
    refine wp_loop_rounds 3 ?_
    rw [rounds_succ]; go_wp2
    rw [rounds_succ]; go_wp2
    rw [rounds_succ]; go_wp2
    go_ret2
    exact ⟨by rw [HN.out]; rfl, ((((Below.refl _ _).alloc (by first | (simp; done) | (simp; omega)) _).alloc (by first | (simp; done) | (simp; omega)) _).alloc (by first | (simp; done) | (simp; omega)) _)⟩
  | k3 h0 h1 h2 h3 hn =>
    have f0 := (BEq.comm (a := [108, 116]) (b := s.toList)).trans h0
    have f1 := (BEq.comm (a := [103, 116]) (b := s.toList)).trans h1
    have f2 := (BEq.comm (a := [97, 109, 112]) (b := s.toList)).trans h2
    have f3 := (BEq.comm (a := [97, 112, 111, 115]) (b := s.toList)).trans h3
    clear h0 h1 h2 h3
    have HN := Lib.hid hn
    clear hn
    go_enter Tryd.func36, Tryd.ntmps36
    go_wp2
    refine wp_loop_rounds 4 ?_
    rw [rounds_succ]; go_wp2
    rw [rounds_succ]; go_wp2
    rw [rounds_succ]; go_wp2
    rw [rounds_succ]; go_wp2
    go_ret2
    exact ⟨by rw [HN.out]; rfl, (((((Below.refl _ _).alloc (by first | (simp; done) | (simp; omega)) _).alloc (by first | (simp; done) | (simp; omega)) _).alloc (by first | (simp; done) | (simp; omega)) _).alloc (by first | (simp; done) | (simp; omega)) _)⟩
  | k4 h0 h1 h2 h3 h4 hn =>
    have f0 := (BEq.comm (a := [108, 116]) (b := s.toList)).trans h0
    have f1 := (BEq.comm (a := [103, 116]) (b := s.toList)).trans h1
    have f2 := (BEq.comm (a := [97, 109, 112]) (b := s.toList)).trans h2
    have f3 := (BEq.comm (a := [97, 112, 111, 115]) (b := s.toList)).trans h3
    have f4 := (BEq.comm (a := [113, 117, 111, 116]) (b := s.toList)).trans h4
    clear h0 h1 h2 h3 h4
    have HN := Lib.hid hn
    clear hn
    go_enter Tryd.func36, Tryd.ntmps36
    go_wp2
    refine wp_loop_rounds 5 ?_
    rw [rounds_succ]; go_wp2
    rw [rounds_succ]; go_wp2
    rw [rounds_succ]; go_wp2
    rw [rounds_succ]; go_wp2
    rw [rounds_succ]; go_wp2
    go_ret2
    exact ⟨by rw [HN.out]; rfl, ((((((Below.refl _ _).alloc (by first | (simp; done) | (simp; omega)) _).alloc (by first | (simp; done) | (simp; omega)) _).alloc (by first | (simp; done) | (simp; omega)) _).alloc (by first | (simp; done) | (simp; omega)) _).alloc (by first | (simp; done) | (simp; omega)) _)⟩
  | k5 h0 h1 h2 h3 h4 hn =>
    have f0 := (BEq.comm (a := [108, 116]) (b := s.toList)).trans h0
    have f1 := (BEq.comm (a := [103, 116]) (b := s.toList)).trans h1
    have f2 := (BEq.comm (a := [97, 109, 112]) (b := s.toList)).trans h2
    have f3 := (BEq.comm (a := [97, 112, 111, 115]) (b := s.toList)).trans h3
    have f4 := (BEq.comm (a := [113, 117, 111, 116]) (b := s.toList)).trans h4
    clear h0 h1 h2 h3 h4
    have HN := Lib.hid hn
    clear hn
    go_enter Tryd.func36, Tryd.ntmps36
    go_wp2
    refine wp_loop_rounds 6 ?_
    rw [rounds_succ]; go_wp2
    rw [rounds_succ]; go_wp2
    rw [rounds_succ]; go_wp2
    rw [rounds_succ]; go_wp2
    rw [rounds_succ]; go_wp2
    rw [rounds_succ]; go_wp2
    go_ret2
    exact ⟨by rw [HN.out]; rfl, ((((((Below.refl _ _).alloc (by first | (simp; done) | (simp; omega)) _).alloc (by first | (simp; done) | (simp; omega)) _).alloc (by first | (simp; done) | (simp; omega)) _).alloc (by first | (simp; done) | (simp; omega)) _).alloc (by first | (simp; done) | (simp; omega)) _)⟩
set_option maxHeartbeats 2000000 in
theorem rknown_any (s : ByteArray) (w : World) : Calls Tryd.prog 32 #[.string s] w (RetI (knownN s) w) := by
  cases knownOr s with
  | k0 h0 hn =>
    rw [hn]
    go_enter Tryd.func32, Tryd.ntmps32
    go_wp2
    go_ret
    exact ⟨rfl, rfl⟩
  | k1 h0 h1 hn =>
    rw [hn]
    go_enter Tryd.func32, Tryd.ntmps32
    go_wp2
    go_ret
    exact ⟨rfl, rfl⟩
  | k2 h0 h1 h2 hn =>
    rw [hn]
    go_enter Tryd.func32, Tryd.ntmps32
    go_wp2
    go_ret
    exact ⟨rfl, rfl⟩
  | k3 h0 h1 h2 h3 hn =>
    rw [hn]
    go_enter Tryd.func32, Tryd.ntmps32
    go_wp2
    go_ret
    exact ⟨rfl, rfl⟩
  | k4 h0 h1 h2 h3 h4 hn =>
    rw [hn]
    go_enter Tryd.func32, Tryd.ntmps32
    go_wp2
    go_ret
    exact ⟨rfl, rfl⟩
  | k5 h0 h1 h2 h3 h4 hn =>
    rw [hn]
    go_enter Tryd.func32, Tryd.ntmps32
    go_wp2
    go_ret
    exact ⟨rfl, rfl⟩
end Go.Proofs.YtkeclfhhilphpaaDoor
/- A map from names to sizes, and cost's sizes in memory. Conditions: none. -/
namespace Go.Proofs.YtkeclfhhilphpaaDoor
open Go.RowKit Go.Maps Go.Proofs.YtkeclfhhilphpaaDoor.RefPlain
set_option linter.unusedVariables false
set_option linter.unusedSimpArgs false
def zeroSz : Value := .agg #[.int .i64 0, .int .i64 0, .int .i64 0]
theorem zeroSize (w : World) : (zeroValue 26).run Tryd.prog w = .ok zeroSz w := by kernel_rfl
def SzMap (D : DataW Value) (f : ByteArray → Option Sz) : Prop := ∀ (k : ByteArray) (zd : DataW Value), D.atKey (.string k.data.toList) zd = match f k with | some x => .held x.v | none => zd
theorem SzMap.nil : SzMap (.map []) (fun _ => none) := fun k zd => rfl
def putF (f : ByteArray → Option Sz) (s : ByteArray) (x : Sz) : ByteArray → Option Sz := fun k => if k = s then some x else f k
theorem SzMap.put {D : DataW Value} {f : ByteArray → Option Sz} {s : ByteArray} {x : Sz} (h : SzMap D f) (hm : IsMap D) : SzMap (D.put (.string s.data.toList) (.held x.v)) (putF f s x) := by
  intro k zd
  unfold putF
  by_cases e : k = s
  · subst e
    rw [atKey_put_same hm (show WideAt.IsKeyLit (.string k.data.toList) from trivial), if_pos rfl]
  · rw [atKey_put_other (fun e2 => e ?_), h k zd, if_neg e]
    exact Go.WideShapes.bytes_inj (Lit.string.inj e2)
theorem sz_look {w : World} {b n : Nat} {D : DataW Value} {f : ByteArray → Option Sz} (hM : w.ownsMap Tryd.prog 9 heldV b n D) (hD : SzMap D f) (k : ByteArray) (hk : k.size ≤ maxLen) :
    (Instr.lookup 69 (.map (some b)) (.string k) true).run Tryd.prog w = .ok (.tuple #[((f k).map Sz.v).getD zeroSz, .bool (f k).isSome]) w := by
  have hkey : keyOf Tryd.prog 9 (.string k) = some (.string k.data.toList) := WideMaps.keyOf_string_mk Tryd.underlying9 hk
  obtain ⟨vv, ps2, hrun, hRv⟩ := hM.look_ok lawV Tryd.underlying69 (zeroSize _) (zd := .held zeroSz) (zp := []) rfl hkey
  have h2 := heldV_inv hRv
  rw [hD k] at h2
  cases hf : f k with
  | some x =>
    have hsn : ∀ zd, D.atKey (.string k.data.toList) zd = .held x.v := fun zd => by rw [hD k zd, hf]
    rw [has_true_of_atKey hsn] at hrun
    rw [hf] at h2
    have h3 : x.v = vv := DataW.held.inj (show DataW.held x.v = DataW.held vv from congrArg Prod.fst h2)
    rw [← h3] at hrun
    exact hrun
  | none =>
    have hsn : ∀ zd, D.atKey (.string k.data.toList) zd = zd := fun zd => by rw [hD k zd, hf]
    rw [has_false_of_atKey hsn] at hrun
    rw [hf] at h2
    have h3 : zeroSz = vv := DataW.held.inj (show DataW.held zeroSz = DataW.held vv from congrArg Prod.fst h2)
    rw [← h3] at hrun
    exact hrun
structure ZAt (w : World) (zb M : Nat) (y z : Value) (n : Nat) (D : DataW Value) (f : ByteArray → Option Sz) : Prop where
  blk : Blk3 w zb 72 (.map (some M)) y z
  map : w.ownsMap Tryd.prog 9 heldV M n D
  is : SzMap D f
theorem ZAt.later {w w' : World} {zb M : Nat} {y z : Value} {n : Nat} {D : DataW Value} {f : ByteArray → Option Sz} (h : ZAt w zb M y z n D f) (hb : Below w.heap.size w w') : ZAt w' zb M y z n D f :=
  ⟨h.blk.later hb, mapV_below h.map hb, h.is⟩
/-- The size of a reference, of entities whose sizes are known. -/
def refF (f : ByteArray → Option Sz) (r : RefR) : Sz := match f (strOfNums r.s) with
  | some z => ⟨addM (r.b - r.a) z.c, z.l, z.d + 1⟩
  | none => if 0 < knownN (strOfNums r.s) then ⟨r.b - r.a, 1, 0⟩ else ⟨r.b - r.a, r.b - r.a, 0⟩
def okF (f : ByteArray → Option Sz) (m : Nat) : Prop := ∀ k z, f k = some z → z.c ≤ MX ∧ z.l ≤ MX ∧ z.d ≤ m
theorem refF_ok {f : ByteArray → Option Sz} {m : Nat} {r : RefR} (hf : okF f m) (hm : m + 1 ≤ MX) (hb : r.b ≤ MX) : (refF f r).c ≤ MX ∧ (refF f r).l ≤ MX ∧ (refF f r).d ≤ m + 1 := by
  unfold refF
  split
  · rename_i z h
    obtain ⟨h1, h2, h3⟩ := hf _ _ h
    exact ⟨by show min _ _ ≤ _; omega, h2, by show z.d + 1 ≤ _; omega⟩
  · split
    · exact ⟨by show r.b - r.a ≤ _; omega, by show 1 ≤ _; unfold MX; omega, by show 0 ≤ _; omega⟩
    · exact ⟨by show r.b - r.a ≤ _; omega, by show r.b - r.a ≤ _; omega, by show 0 ≤ _; omega⟩
end Go.Proofs.YtkeclfhhilphpaaDoor
/- Sizes of texts, step by step. Plain; no program in sight. -/
namespace Go.Proofs.YtkeclfhhilphpaaDoor
open Go.Proofs.YtkeclfhhilphpaaDoor.RefPlain
set_option linter.unusedVariables false
/-- What is held behind some references: the size so far, and the place. -/
def accZ (f : RefR → Sz) (l : List RefR) : Sz × Nat := (l.map (rzOf f)).foldl stepZ (⟨0, 0, 0⟩, 0)
theorem accZ_next {f : RefR → Sz} {l : List RefR} {k : Nat} {x : RefR} (h : l[k]? = some x) : accZ f (l.take (k + 1)) = (sumZ (sumZ (accZ f (l.take k)).1 (gapZ (x.a - (accZ f (l.take k)).2))) (f x), x.b) := by
  unfold accZ
  rw [List.take_add_one, h, List.map_append, List.foldl_append]
  rfl
theorem sizeT_acc (f : RefR → Sz) (bs : List Int) : sizeT f bs = sumZ (accZ f (refsN bs)).1 (gapZ (bs.length - (accZ f (refsN bs)).2)) := rfl
theorem inOrder_at {rs : List RZ} : ∀ {A : Sz} {i n k : Nat} {r : RZ}, InOrder i n rs → rs[k]? = some r → ((rs.take k).foldl stepZ (A, i)).2 ≤ r.a ∧ r.a ≤ r.b ∧ r.b ≤ n := by
  induction rs with
  | nil => intro A i n k r h hk; simp at hk
  | cons x rs ih =>
    intro A i n k r h hk
    cases k with
    | zero =>
      simp at hk; subst hk
      refine ⟨h.1, h.2.1, ?_⟩
      have := inOrder_end ⟨0, 0, 0⟩ h.2.2
      have h2 : ∀ (rs : List RZ) (i n : Nat), InOrder i n rs → i ≤ n := by
        intro rs
        induction rs with
        | nil => intro i n h; exact h
        | cons y rs ih => intro i n h; exact Nat.le_trans h.1 (Nat.le_trans h.2.1 (ih _ _ h.2.2))
      exact h2 _ _ _ h.2.2
    | succ k =>
      rw [List.getElem?_cons_succ] at hk
      exact ih (A := (stepZ (A, i) x).1) h.2.2 hk
theorem acc_at (f : RefR → Sz) (bs : List Int) {k : Nat} {x : RefR} (h : (refsN bs)[k]? = some x) : (accZ f ((refsN bs).take k)).2 ≤ x.a ∧ x.a ≤ x.b ∧ x.b ≤ bs.length := by
  have h1 := order_refs f bs _ 0 rfl (Nat.zero_le _)
  have h2 : ((refsN bs).map (rzOf f))[k]? = some (rzOf f x) := by rw [List.getElem?_map, h]; rfl
  have h3 := inOrder_at (A := ⟨0, 0, 0⟩) h1 h2
  rw [← List.map_take] at h3
  exact h3
theorem acc_end (f : RefR → Sz) (bs : List Int) : (accZ f (refsN bs)).2 ≤ bs.length := inOrder_end _ (order_refs f bs _ 0 rfl (Nat.zero_le _))
def Sz.upto (a : Sz) (m : Nat) : Prop := a.c ≤ MX ∧ a.l ≤ MX ∧ a.d ≤ m
theorem sum_upto {a b : Sz} {m : Nat} (ha : a.upto m) (hb : b.upto m) : (sumZ a b).upto m := by
  obtain ⟨h1, h2, h3⟩ := ha
  obtain ⟨g1, g2, g3⟩ := hb
  exact ⟨by show min _ _ ≤ _; omega, by show min _ _ ≤ _; omega, by show max _ _ ≤ _; omega⟩
theorem gap_upto {n m : Nat} (h : n ≤ MX) : (gapZ n).upto m := ⟨h, h, Nat.zero_le _⟩
theorem Sz.upto.ok {a : Sz} {m : Nat} (h : a.upto m) (hm : m ≤ MX) : a.ok := ⟨h.1, h.2.1, Nat.le_trans h.2.2 hm⟩
theorem acc_upto {f : RefR → Sz} {m : Nat} {bs : List Int} (hn : bs.length ≤ MX) (hf : ∀ x ∈ refsN bs, (f x).upto m) : ∀ k, (accZ f ((refsN bs).take k)).1.upto m := by
  intro k
  induction k with
  | zero => exact ⟨Nat.zero_le _, Nat.zero_le _, Nat.zero_le _⟩
  | succ k ih =>
    cases hx : (refsN bs)[k]? with
    | none =>
      rw [List.take_add_one, hx]
      simpa using ih
    | some x =>
      rw [accZ_next hx]
      have h1 := acc_at f bs hx
      exact sum_upto (sum_upto ih (gap_upto (by omega))) (hf x (List.mem_of_getElem? hx))
theorem sizeT_upto {f : RefR → Sz} {m : Nat} {bs : List Int} (hn : bs.length ≤ MX) (hf : ∀ x ∈ refsN bs, (f x).upto m) : (sizeT f bs).upto m := by
  rw [sizeT_acc]
  have h1 := acc_upto hn hf (refsN bs).length
  rw [List.take_length] at h1
  exact sum_upto h1 (gap_upto (by omega))
/-- The name of a reference is no longer than the text. -/
theorem ref_upto {f : ByteArray → Option Sz} {m : Nat} {bs : List Int} (hn : bs.length ≤ MX) (hf : okF f m) (hm : m + 1 ≤ MX) : ∀ x ∈ refsN bs, (refF f x).upto (m + 1) := by
  intro x hx
  obtain ⟨k, hk, hx⟩ := List.getElem_of_mem hx
  have h1 := acc_at (refF f) bs (List.getElem?_eq_some_iff.2 ⟨hk, hx⟩)
  exact refF_ok hf hm (by omega)
end Go.Proofs.YtkeclfhhilphpaaDoor
