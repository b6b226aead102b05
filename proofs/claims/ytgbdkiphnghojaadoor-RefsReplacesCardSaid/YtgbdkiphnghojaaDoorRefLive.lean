/- The page's example of layer 18, and plain facts on the text that the cuts give back. Conditions: the tables of chars and of utf hold what the text gives them. -/
import Derived.Test.YtgbdkiphnghojaaDoorRefCut
namespace Go.Proofs.YtgbdkiphnghojaaDoor
open Go.RowKit Go.Proofs.YtgbdkiphnghojaaDoor.UtfPlain Go.Proofs.YtgbdkiphnghojaaDoor.CharsPlain Go.Proofs.YtgbdkiphnghojaaDoor.NamePlain Go.Proofs.YtgbdkiphnghojaaDoor.RefPlain
theorem tsAt_two (w : World) (a b : ByteArray) (t : TypeId) : TsAt (w.alloc (.cells #[.string a, .string b] t)) (some ⟨w.heap.size, 0, none⟩) 2 [a, b] := by
  have h : (w.alloc (.cells #[.string a, .string b] t)).heap[w.heap.size]? = some (.cells #[.string a, .string b] t (0, 0)) := heap_alloc_new w _
  refine ⟨rfl, fun k hk => ?_⟩
  rcases k with _ | _ | k
  · exact ⟨_, a, rfl, rfl, by simp, by rw [addG, Lib.cell_of_heap h]; rfl⟩
  · exact ⟨_, b, rfl, rfl, by simp, by rw [addG, Lib.cell_of_heap h]; rfl⟩
  · omega
def live18S : ByteArray := ⟨#[120, 38, 97, 59, 38, 35, 54, 53, 59, 38, 98, 59, 38]⟩
theorem live18_names : (refsN (bsOf live18S)).map (fun x => strOfNums x.s) = [⟨#[97]⟩, ⟨#[98]⟩] := by decide +kernel
theorem nameCells_txt (l : List RefR) : nameCells l = txtCells (l.map fun x => strOfNums x.s) := by simp [nameCells, txtCells]
set_option maxRecDepth 100000 in
set_option maxHeartbeats 4000000 in
theorem live18_any (w : World) (hf : FormsAt w) (ht : Tabs w) : Calls Tryd.prog 6 #[] w (BelB true w) := by
  have N := refNames_any live18S w (by decide) hf ht
  have hlen : (refsN (bsOf live18S)).length = 2 := by have := congrArg List.length live18_names; simpa using this
  rw [nameCells_txt, live18_names, hlen] at N
  have NH := Lib.hid N
  clear N
  go_enter Tryd.func6, Tryd.ntmps6
  go_wp2_with fail
  refine (show Calls _ _ #[.string live18S] _ _ from NH.out).mono ?_
  rintro e w1 ⟨A, c, rfl, hrow, hB⟩
  have hr : TsAt w1 A 2 [⟨#[97]⟩, ⟨#[98]⟩] := TsAt.of_own (xs := [⟨#[97]⟩, ⟨#[98]⟩]) hrow
  have hB1 := (Below.refl w1.heap.size w1).alloc (Nat.le_refl _) (.cells #[.string ⟨#[97]⟩, .string ⟨#[98]⟩] 9)
  have T := Lib.hid (rtexts_any A 2 c [⟨#[97]⟩, ⟨#[98]⟩] (some ⟨w1.heap.size, 0, none⟩) 2 2 [⟨#[97]⟩, ⟨#[98]⟩] _ (hr.below hB1) (tsAt_two w1 ⟨#[97]⟩ ⟨#[98]⟩ 9) (by omega))
  have HB := Lib.hid (hB.trans (hB1.mono hB.size))
  clear hrow hr hB hB1
  go_wp2_with fail
  refine (T.out).mono ?_
  rintro e w2 ⟨rfl, d, rfl⟩
  go_wp2
  go_ret
  exact ⟨rfl, HB.out.trans (belowN_drewN _ _ d)⟩
/-- What the law's loop has glued together behind k rounds. -/
def glS (s : ByteArray) (k : Nat) : ByteArray := if k ≤ (refsN (bsOf s)).length then s.extract 0 (lastB 0 ((refsN (bsOf s)).take k)) else s
theorem glS_zero (s : ByteArray) : glS s 0 = ⟨#[]⟩ := by
  unfold glS
  rw [if_pos (Nat.zero_le _)]
  simp only [List.take_zero, lastB]
  apply Go.WideShapes.bytes_inj
  rw [Lib.extract_data]; rfl
theorem glS_end (s : ByteArray) : glS s ((refsN (bsOf s)).length + 1) = s := by unfold glS; rw [if_neg (by omega)]
theorem ext_sz (s : ByteArray) (i j : Nat) (h : j ≤ s.size) : (s.extract i j).size = j - i := by rw [ByteArray.size_extract, Nat.min_eq_left h]
theorem gl_step (s : ByteArray) (k : Nat) (x : RefR) (hx : (refsN (bsOf s))[k]? = some x) :
    ∃ p, p ≤ x.a ∧ x.a < x.b ∧ x.b ≤ s.size ∧ glS s k = s.extract 0 p ∧ (cutsN s)[k]? = some (s.extract p x.a) ∧ glS s (k + 1) = s.extract 0 x.b ∧ s.extract x.a x.b = ⟨#[38]⟩ ++ strOfNums x.s ++ ⟨#[59]⟩ := by
  have hk : k < (refsN (bsOf s)).length := (List.getElem?_eq_some_iff.1 hx).1
  have hd : refsN (bsOf s) = (refsN (bsOf s)).take k ++ x :: (refsN (bsOf s)).drop (k + 1) := by
    have h1 := List.take_append_drop k (refsN (bsOf s))
    rw [List.drop_eq_getElem_cons hk, (List.getElem?_eq_some_iff.1 hx).2] at h1
    exact h1.symm
  have hc := chain_next s _ _ x (by rw [← hd]; exact refsN_chain s)
  refine ⟨lastB 0 ((refsN (bsOf s)).take k), hc.1, hc.2.1, hc.2.2.1, ?_, ?_, ?_, hc.2.2.2⟩
  · unfold glS; rw [if_pos (by omega)]
  · unfold cutsN; rw [List.getElem?_append_left (by rw [cutsF_len]; exact hk)]; exact cutsF_at s _ 0 k x hx
  · unfold glS; rw [if_pos (by omega), List.take_add_one, hx]; exact congrArg _ (lastB_snoc _ _ _)
theorem gl_last (s : ByteArray) : ∃ p, p ≤ s.size ∧ glS s (refsN (bsOf s)).length = s.extract 0 p ∧ (cutsN s)[(refsN (bsOf s)).length]? = some (s.extract p s.size) := by
  refine ⟨lastB 0 (refsN (bsOf s)), chain_last s _ 0 (Nat.zero_le _) (refsN_chain s), ?_, ?_⟩
  · unfold glS; rw [if_pos (Nat.le_refl _), List.take_length]
  · unfold cutsN; rw [List.getElem?_append_right (by rw [cutsF_len]; exact Nat.le_refl _), cutsF_len, Nat.sub_self]; rfl
end Go.Proofs.YtgbdkiphnghojaaDoor
