/- The walk of NameLong. Conditions: the tables of chars and of utf hold what the text gives them. -/
import Derived.Test.YthcehnmkabnjfaaDoorNameReads
import Derived.OwnWalk
namespace Go.Proofs.YthcehnmkabnjfaaDoor
open Go.RowKit Go.Proofs.YthcehnmkabnjfaaDoor.UtfPlain Go.Proofs.YthcehnmkabnjfaaDoor.CharsPlain Go.Proofs.YthcehnmkabnjfaaDoor.NamePlain
/-- Many letters a. -/
def aas (m : Nat) : List Int := List.replicate m 97
theorem cand_low (c x y z : Int) (h : c < 128) : cand c x y z = (c, 1) := if_pos h
theorem aas_char (m : Nat) (r : List Int) (k : Nat) (hk : k < m) : charAt (aas m ++ r) k = (97, 1) := by
  have h : (aas m ++ r).getD k 0 = 97 := by
    rw [List.getD_eq_getElem?_getD, List.getElem?_append_left (by simpa [aas] using hk)]
    simp [aas, hk]
  unfold charAt charOf
  rw [h, cand_low 97 _ _ _ (by omega)]
  decide
theorem aas_end (m : Nat) (r : List Int) (d : Nat) : ∀ (first : Bool) (k : Nat), m - k = d → k ≤ m → endN (aas m ++ r) false first k = endN (aas m ++ r) false (first && decide (k = m)) m := by
  induction d with
  | zero =>
    intro first k hd hk
    obtain rfl : k = m := by omega
    simp
  | succ d ih =>
    intro first k hd hk
    have hc := aas_char m r k (by omega)
    rw [endN_yes _ false first k (by simp [aas]; omega) (by rw [hc]; decide) (by rw [hc]; cases first <;> decide)]
    rw [hc]
    have h2 := ih false (k + 1) (by omega) (by omega)
    rw [h2]
    have : decide (k = m) = false := by simp; omega
    rw [this]; simp
theorem aas_eq (m : Nat) (h : 0 < m) : endN (aas m ++ [61]) false true 0 = m := by
  rw [aas_end m [61] m true 0 (by omega) (by omega)]
  refine endN_no _ _ _ _ (.inr ?_)
  have : decide (0 = m) = false := by simp; omega
  rw [this]
  have hg : (aas m ++ [61]).getD m 0 = 61 := by
    rw [List.getD_eq_getElem?_getD, List.getElem?_append_right (by simp [aas])]
    simp [aas]
  have hc : charAt (aas m ++ [61]) m = (61, 1) := by
    unfold charAt charOf
    rw [hg, cand_low 61 _ _ _ (by omega)]
    decide
  rw [hc]; decide
theorem aas_all (m : Nat) : endN (aas m) false true 0 = m := by
  have h := aas_end m [] m true 0 (by omega) (by omega)
  rw [List.append_nil] at h
  rw [h]
  exact endN_at _ _ _ _ (by simp [aas])
theorem aas_len (m : Nat) : (aas m).length = m := by simp [aas]
theorem aas_read (m : Nat) (h : 0 < m) (h2 : m ≤ 1024) : readN (aas m ++ [61]) false 0 = (aas m, (m : Int), 0) := by
  have := readN_ok (aas m ++ [61]) false 0 (by omega) (by rw [aas_eq m h]; omega) (by rw [aas_eq m h]; omega)
  rw [aas_eq m h] at this
  rw [show ((0 : Nat) : Int) = 0 from rfl] at this
  rw [this]
  unfold cut
  simp [aas]
theorem aas_long (m : Nat) (h2 : 1024 < m) : readN (aas m ++ [61]) false 0 = ([], 0, 11) := by
  have := readN_long (aas m ++ [61]) false 0 (by omega) (by rw [aas_eq m (by omega)]; omega) (by rw [aas_eq m (by omega)]; omega)
  exact this
theorem aas_is (m : Nat) (h : 0 < m) : isN (aas m) false = true := by unfold isN; rw [aas_all, aas_len]; simp [h]
theorem aas_b (m : Nat) : ∀ x ∈ aas m, 0 ≤ x ∧ x ≤ 255 := by intro x hx; rw [List.eq_of_mem_replicate hx]; omega
theorem aas_b2 (m : Nat) : ∀ x ∈ aas m ++ [61], 0 ≤ x ∧ x ≤ 255 := by
  intro x hx
  rcases List.mem_append.1 hx with h | h
  · exact aas_b m x h
  · simp at h; omega
theorem aas_succ (m : Nat) : byteCells (aas m) ++ [.int .u8 97] = byteCells (aas (m + 1)) := by simp [byteCells, aas, List.replicate_succ']
--GEN
theorem ownRow_shapeN {w : World} {base size n : Nat} {e : TypeId} {v : Value} {xs : List Value} (h : w.ownsRow base e size v n xs) : ∃ A c, v = .slice A n c := by
  rcases h.2 with ⟨h1, h2⟩ | ⟨g, cap, _, h1, _⟩
  · subst h2; exact ⟨_, _, h1⟩
  · exact ⟨_, _, h1⟩
theorem strAas_size (m : Nat) : (strOfNums (aas m)).size = m := by
  show (strOfNums (aas m)).data.size = m
  simp [strOfNums, aas]
theorem byteCells_app (xs ys : List Int) : byteCells (xs ++ ys) = byteCells xs ++ byteCells ys := by simp [byteCells]
theorem aas_one (m : Nat) : ∀ u ∈ ([.int .u8 m] : List Value), u.oneCell' = true := by intro u hu; simp at hu; subst hu; rfl
theorem own_old {w : World} {base c2 n : Nat} {e : TypeId} {g : Nat} {xs ys : List Int} (h : w.ownsRow base e 1 (.slice (some ⟨g, 0, none⟩) n c2) n (byteCells (xs ++ ys))) (hx : ∀ x ∈ xs, 0 ≤ x ∧ x ≤ 255) : BytesAt w (some ⟨g, 0, none⟩) xs.length xs := by
  refine ⟨rfl, fun k hk => ?_⟩
  have hb := hx _ (List.getElem_mem hk)
  refine ⟨_, xs[k], rfl, List.getElem?_eq_getElem hk, hb.1, hb.2, (h.lt g rfl).2, ?_⟩
  refine h.cells (g := g) rfl k _ ?_
  unfold byteCells
  rw [List.getElem?_map, List.getElem?_append_left hk, List.getElem?_eq_getElem hk]; rfl
set_option maxRecDepth 100000 in
set_option maxHeartbeats 8000000 in
theorem nameLong_any (u : Int) (w : World) (h0 : 0 ≤ u) (h1 : u ≤ 65535) (hf : FormsAt w) (ht : Tabs w) :
    Calls Tryd.prog 3 #[.int .u16 u] w (BelB true w) := by
  obtain ⟨i0, hi0, hz0, hz1, hz2⟩ := info_parts Tryd.infoU8
  have HF := Lib.hid hf
  have HT := Lib.hid ht
  clear hf ht
  obtain ⟨m, hm, hm1, hm2⟩ : ∃ m : Nat, 1000 + u % 50 = (m : Int) ∧ 1000 ≤ m ∧ m < 1050 := ⟨(1000 + u % 50).toNat, by omega, by omega, by omega⟩
  have hm0 : 0 < m := by omega
  have K := Lib.hid hm
  clear hm
  go_enter Tryd.func3, Tryd.ntmps3
  go_wp2
  rw [K.out]
  go_loopw [4, 5] (fun v0 i wr => ∃ (j : Nat) (v : Value), v = v0 ∧ j ≤ m ∧ i = .int .i64 j ∧ Hid (wr.ownsRow w.heap.size 5 1 v j (byteCells (aas j))) ∧ Hid (Below w.heap.size w wr)) (fun _ i _ => m - (intOf i).toNat)
  case atStart =>
    refine ⟨0, _, rfl, by omega, rfl, ?_, (Below.refl _ _).alloc (Nat.le_refl _) _⟩
    have h := World.ownsRow_lit (base := w.heap.size) (e := 5) (size := 1) w #[] 0 (Nat.le_refl _) (by unfold maxLen; omega) (by simp)
    exact h
  case round =>
    obtain ⟨j, v, rfl, hj, rfl, HO, HB⟩ := hrel
    have hsz := HB.out.size
    have hown := HO.out
    by_cases hlt : j < m
    · go_wp2_with (at_builtin; refine wpList_append_own _ rfl (.tmp 19) (.tmp 20) 23 rfl w.heap.size 5 i0 (.int .u8 0) 1 1 Tryd.underlying23 hi0 hz0 hz1 hz2 rfl (by decide) _ _ _ rfl (hown.alloc _) ⟨wr.heap.size, 0, none⟩ 1 1 [.int .u8 97] rfl rfl ?c1 ?c2 ?c3 ?c4 ?c5 ?_)
      case c1 => exact cell_one_new _ _ _
      case c2 => intro u hu; simp at hu; subst hu; rfl
      case c3 => unfold maxLen; omega
      case c4 => omega
      case c5 => simp; omega
      intro v' w2 hown' hgrow _
      rw [aas_succ] at hown'
      have HO2 := Lib.hid hown'
      have HB2 := Lib.hid ((HB.out.alloc hsz _).grown hgrow (by simp; omega) (fun g hg => (hown.lt g hg).1))
      clear hown' hgrow hown HO HB
      go_wp2
      go_roundw
      case rel => exact ⟨j + 1, _, rfl, by omega, by go_num, HO2, HB2⟩
      case measure => simp [intOf]; omega
    · obtain rfl : m = j := by omega
      obtain ⟨g, cap, rfl⟩ : ∃ g cap, v = .slice (some ⟨g, 0, none⟩) m cap := by
        rcases hown.2 with ⟨_, h⟩ | ⟨g, cap, _, h, _⟩
        · omega
        · exact ⟨g, cap, h⟩
      have hcap := own_cap hown
      have hg0 := hown.lt g rfl
      by_cases hr : m + 1 ≤ cap
      · go_wp2_with (at_builtin; refine wpList_append_fits _ rfl (.tmp 23) (.tmp 24) 23 rfl w.heap.size 5 i0 1 Tryd.underlying23 hi0 hz1 g m cap (byteCells (aas m)) rfl (hown.alloc _) ⟨wr.heap.size, 0, none⟩ 1 1 [.int .u8 61] rfl rfl ?d1 ?d2 hr ?_)
        case d2 => rfl
        intro w2 hown' hgrow
        have hown2 : w2.ownsRow w.heap.size 5 1 (.slice (some ⟨g, 0, none⟩) (m + 1) cap) (m + 1) (byteCells (aas m ++ [61])) := by rw [byteCells_app]; exact hown'
        have BN : Hid (BytesAt w2 (some ⟨g, 0, none⟩) (m + 1) (aas m ++ [61])) := by
          have h := BytesAt.of_own (A := some ⟨g, 0, none⟩) (c := cap) (xs := aas m ++ [61]) (by rw [List.length_append, aas_len]; exact hown2) (aas_b2 m)
          rw [List.length_append, aas_len] at h; exact h
        have BO : Hid (BytesAt w2 (some ⟨g, 0, none⟩) m (aas m)) := by
          have h := own_old hown2 (aas_b m); rw [aas_len] at h; exact h
        have HC := Lib.hid ((HB.out.alloc hsz _).grown hgrow (by simp; omega) (fun g' hg' => by cases hg'; exact hg0.1))
        have cb := And.intro hr hcap.2.1
        clear hown' hgrow hown HO HB hown2 hg0
        rcases Nat.lt_or_ge 1024 m with hm | hm
        · have t1 : decide ((1024 : Int) < (m : Int)) = true := by simp; omega
          have N1 := nameAt_any (some ⟨g, 0, none⟩) (m + 1) cap 0 (aas m ++ [61]) w2 (by omega) cb.1 cb.2 BN.out (HF.out.below HC.out HF.out.size) (HT.out.below HC.out HT.out.size)
          rw [aas_long m hm] at N1
          have NN := Lib.hid N1
          clear N1 hm
          go_wp2_with fail
          refine NN.out.mono ?_
          rintro e w3 ⟨rfl, hB3⟩
          have HC3 := Lib.hid (HC.out.trans (hB3.mono HC.out.size))
          have hcv := convB w3 (some ⟨g, 0, none⟩) m cap (aas m) (BO.out.below hB3)
          have IS := isName_any (strOfNums (aas m)) w3 (by rw [strAas_size]; omega) (HF.out.below HC3.out HF.out.size) (HT.out.below HC3.out HT.out.size)
          rw [bsOf_strOf _ (aas_b m), aas_is m hm0] at IS
          have II := Lib.hid IS
          clear hB3 NN IS
          have z0 : strOfNums [] = ⟨#[]⟩ := rfl
          rw [z0]
          go_wp2_with fail
          refine II.out.mono ?_
          rintro e w4 ⟨rfl, hB4⟩
          have HC4 := Lib.hid (HC3.out.trans (hB4.mono HC3.out.size))
          clear hB4 II hcv
          go_wp2_with fail
          refine (live5_any _ (HF.out.below HC4.out HF.out.size) (HT.out.below HC4.out HT.out.size)).mono ?_
          rintro e w5 ⟨rfl, hB5⟩
          go_wp2
          go_ret
          exact ⟨rfl, HC4.out.trans (hB5.mono HC4.out.size)⟩
        · have t1 : decide ((1024 : Int) < (m : Int)) = false := by simp; omega
          have N1 := nameAt_any (some ⟨g, 0, none⟩) (m + 1) cap 0 (aas m ++ [61]) w2 (by omega) cb.1 cb.2 BN.out (HF.out.below HC.out HF.out.size) (HT.out.below HC.out HT.out.size)
          rw [aas_read m hm0 hm] at N1
          have NN := Lib.hid N1
          clear N1 hm
          go_wp2_with fail
          refine NN.out.mono ?_
          rintro e w3 ⟨rfl, hB3⟩
          have HC3 := Lib.hid (HC.out.trans (hB3.mono HC.out.size))
          have hcv := convB w3 (some ⟨g, 0, none⟩) m cap (aas m) (BO.out.below hB3)
          clear hB3 NN
          go_wp2_with fail
          refine (live5_any _ (HF.out.below HC3.out HF.out.size) (HT.out.below HC3.out HT.out.size)).mono ?_
          rintro e w5 ⟨rfl, hB5⟩
          go_wp2
          go_ret
          exact ⟨rfl, HC3.out.trans (hB5.mono HC3.out.size)⟩
      · go_wp2_with (at_builtin; refine wpList_append_grows _ rfl (.tmp 23) (.tmp 24) 23 rfl 5 i0 (.int .u8 0) 1 1 Tryd.underlying23 hi0 hz0 hz1 hz2 rfl (by decide) (some ⟨g, 0, none⟩) m cap (byteCells (aas m)) rfl (fun h => by cases h) (by simp [byteCells, aas]) (fun b hb => by cases hb; exact (hown.alloc _).cells rfl) ⟨wr.heap.size, 0, none⟩ 1 1 [.int .u8 61] rfl rfl ?e1 ?e2 ?e3 ?e4 ?e5 ?_)
        case e2 => rfl
        case e3 => omega
        case e4 => unfold maxLen; omega
        case e5 => omega
        intro v' w2 hown' hgrow
        obtain ⟨A2, c2, rfl⟩ := ownRow_shapeN hown'
        have hown2 : w2.ownsRow (wr.heap.size + 1) 5 1 (.slice A2 (m + 1) c2) (m + 1) (byteCells (aas m ++ [61])) := by rw [byteCells_app]; exact hown'
        have BN : Hid (BytesAt w2 A2 (m + 1) (aas m ++ [61])) := by
          have h := BytesAt.of_own (A := A2) (c := c2) (xs := aas m ++ [61]) (by rw [List.length_append, aas_len]; exact hown2) (aas_b2 m)
          rw [List.length_append, aas_len] at h; exact h
        have hBo : BytesAt wr (some ⟨g, 0, none⟩) m (aas m) := by
          have h := BytesAt.of_own (A := some ⟨g, 0, none⟩) (c := cap) (xs := aas m) (by rw [aas_len]; exact hown) (aas_b m)
          rw [aas_len] at h; exact h
        have hbl : Below wr.heap.size wr w2 := (((Below.refl _ wr).alloc (Nat.le_refl _) _).grown hgrow (by simp) (fun g' hg' => by cases hg'))
        have BO := Lib.hid (hBo.below hbl)
        have HC := Lib.hid (HB.out.trans (hbl.mono HB.out.size))
        have cb := (own_cap hown2)
        have cb := And.intro cb.1 cb.2.1
        clear hown' hgrow hown HO HB hown2 hBo hbl hg0
        rcases Nat.lt_or_ge 1024 m with hm | hm
        · have t1 : decide ((1024 : Int) < (m : Int)) = true := by simp; omega
          have N1 := nameAt_any A2 (m + 1) c2 0 (aas m ++ [61]) w2 (by omega) cb.1 cb.2 BN.out (HF.out.below HC.out HF.out.size) (HT.out.below HC.out HT.out.size)
          rw [aas_long m hm] at N1
          have NN := Lib.hid N1
          clear N1 hm
          go_wp2_with fail
          refine NN.out.mono ?_
          rintro e w3 ⟨rfl, hB3⟩
          have HC3 := Lib.hid (HC.out.trans (hB3.mono HC.out.size))
          have hcv := convB w3 (some ⟨g, 0, none⟩) m cap (aas m) (BO.out.below hB3)
          have IS := isName_any (strOfNums (aas m)) w3 (by rw [strAas_size]; omega) (HF.out.below HC3.out HF.out.size) (HT.out.below HC3.out HT.out.size)
          rw [bsOf_strOf _ (aas_b m), aas_is m hm0] at IS
          have II := Lib.hid IS
          clear hB3 NN IS
          have z0 : strOfNums [] = ⟨#[]⟩ := rfl
          rw [z0]
          go_wp2_with fail
          refine II.out.mono ?_
          rintro e w4 ⟨rfl, hB4⟩
          have HC4 := Lib.hid (HC3.out.trans (hB4.mono HC3.out.size))
          clear hB4 II hcv
          go_wp2_with fail
          refine (live5_any _ (HF.out.below HC4.out HF.out.size) (HT.out.below HC4.out HT.out.size)).mono ?_
          rintro e w5 ⟨rfl, hB5⟩
          go_wp2
          go_ret
          exact ⟨rfl, HC4.out.trans (hB5.mono HC4.out.size)⟩
        · have t1 : decide ((1024 : Int) < (m : Int)) = false := by simp; omega
          have N1 := nameAt_any A2 (m + 1) c2 0 (aas m ++ [61]) w2 (by omega) cb.1 cb.2 BN.out (HF.out.below HC.out HF.out.size) (HT.out.below HC.out HT.out.size)
          rw [aas_read m hm0 hm] at N1
          have NN := Lib.hid N1
          clear N1 hm
          go_wp2_with fail
          refine NN.out.mono ?_
          rintro e w3 ⟨rfl, hB3⟩
          have HC3 := Lib.hid (HC.out.trans (hB3.mono HC.out.size))
          have hcv := convB w3 (some ⟨g, 0, none⟩) m cap (aas m) (BO.out.below hB3)
          clear hB3 NN
          go_wp2_with fail
          refine (live5_any _ (HF.out.below HC3.out HF.out.size) (HT.out.below HC3.out HT.out.size)).mono ?_
          rintro e w5 ⟨rfl, hB5⟩
          go_wp2
          go_ret
          exact ⟨rfl, HC3.out.trans (hB5.mono HC3.out.size)⟩
end Go.Proofs.YthcehnmkabnjfaaDoor
