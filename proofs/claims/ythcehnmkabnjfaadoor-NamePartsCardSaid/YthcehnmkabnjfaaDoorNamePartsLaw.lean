/- The walk of NameParts. Conditions: the tables of chars and of utf hold what the text gives them. -/
import Derived.Test.YthcehnmkabnjfaaDoorNameParts
import Derived.Laws.Strings
namespace Go.Proofs.YthcehnmkabnjfaaDoor
open Go.RowKit Go.Proofs.YthcehnmkabnjfaaDoor.UtfPlain Go.Proofs.YthcehnmkabnjfaaDoor.CharsPlain Go.Proofs.YthcehnmkabnjfaaDoor.NamePlain
set_option maxRecDepth 100000 in
set_option maxHeartbeats 16000000 in
theorem nameParts_any (s : ByteArray) (w : World) (hf : FormsAt w) (ht : Tabs w) :
    Calls Tryd.prog 5 #[.string s] w (BelB true w) := by
  have HF := Lib.hid hf
  have HT := Lib.hid ht
  clear hf ht
  by_cases hn : 300 < s.size
  · have t0 : decide ((300 : Int) < (s.size : Int)) = true := by simp; omega
    go_enter Tryd.func5, Tryd.ntmps5
    go_wp2_with fail
    refine (live5_any _ HF.out HT.out).mono ?_
    rintro e w' ⟨rfl, hB⟩
    go_wp2
    go_ret
    exact ⟨rfl, hB⟩
  · have t0 : decide ((300 : Int) < (s.size : Int)) = false := by simp; omega
    have hs : s.size ≤ 300 := by omega
    have PC := Lib.hid (partS_cases s)
    have N0 := Lib.hid (isName_any s w (by omega) HF.out HT.out)
    have TE := Lib.hid (isTok_eq s)
    obtain ⟨b1, hb1⟩ : ∃ b, isN (bsOf s) false = b := ⟨_, rfl⟩
    obtain ⟨b2, hb2⟩ : ∃ b, isN (bsOf s) true = b := ⟨_, rfl⟩
    obtain ⟨b3, hb3⟩ : ∃ b, allK 3 (runes (bsOf s)) = b := ⟨_, rfl⟩
    have B1 := Lib.hid hb1
    have B2 := Lib.hid hb2
    have B3 := Lib.hid hb3
    have q1 : (b1 != b1) = false := by cases b1 <;> rfl
    have q2 : (b2 != b2) = false := by cases b2 <;> rfl
    have q3 : (b3 != b3) = false := by cases b3 <;> rfl
    clear hn hb1 hb2 hb3
    by_cases h0 : s = ⟨#[]⟩
    · subst h0
      have TT : Hid (isTok ⟨#[]⟩ = false) := isTok_no
      clear TE
      have PS : Hid (partS ⟨#[]⟩ = (⟨#[]⟩, ⟨#[]⟩, 7)) := by show _ = _; decide +kernel
      clear PC
      go_enter Tryd.func5, Tryd.ntmps5
      go_wp2_with fail
      refine N0.out.mono ?_
      rintro e w1 ⟨rfl, hB1⟩
      rw [B1.out]
      have HC := Lib.hid hB1
      clear hB1
      go_wp2_with fail
      refine (ris_text false _ w1 (by omega)).mono ?_
      rintro e w2 ⟨rfl, hB9⟩
      rw [B1.out]
      have HC := Lib.hid (HC.out.trans (hB9.mono HC.out.size))
      clear hB9
      go_wp2_with fail
      refine (isPlain_any _ w2 (by omega) (HF.out.below HC.out HF.out.size) (HT.out.below HC.out HT.out.size)).mono ?_
      rintro e w3 ⟨rfl, hB9⟩
      rw [B2.out]
      have HC := Lib.hid (HC.out.trans (hB9.mono HC.out.size))
      clear hB9
      go_wp2_with fail
      refine (ris_text true _ w3 (by omega)).mono ?_
      rintro e w4 ⟨rfl, hB9⟩
      rw [B2.out]
      have HC := Lib.hid (HC.out.trans (hB9.mono HC.out.size))
      clear hB9
      go_wp2_with fail
      refine (isToken_any _ w4 (by omega) (HF.out.below HC.out HF.out.size) (HT.out.below HC.out HT.out.size)).mono ?_
      rintro e w5 ⟨rfl, hB9⟩
      rw [TT.out]
      have HC := Lib.hid (HC.out.trans (hB9.mono HC.out.size))
      clear hB9
      have PA := part_any ⟨#[]⟩ _ (by omega) (HF.out.below HC.out HF.out.size) (HT.out.below HC.out HT.out.size)
      rw [PS.out] at PA
      have PH := Lib.hid PA
      clear PA
      go_wp2_with fail
      refine (PH.out).mono ?_
      rintro e w7 ⟨rfl, hB9⟩
      have HC := Lib.hid (HC.out.trans (hB9.mono HC.out.size))
      clear hB9
      clear PH
      have PA := rpart_any ⟨#[]⟩ w7 (by omega)
      rw [PS.out] at PA
      have PH := Lib.hid PA
      clear PA
      go_wp2_with fail
      refine (PH.out).mono ?_
      rintro e w8 ⟨rfl, hB9⟩
      have HC := Lib.hid (HC.out.trans (hB9.mono HC.out.size))
      clear hB9
      clear PH
      go_wp2_with fail
      refine (live5_any _ (HF.out.below HC.out HF.out.size) (HT.out.below HC.out HT.out.size)).mono ?_
      rintro e w9 ⟨rfl, hB9⟩
      have HC := Lib.hid (HC.out.trans (hB9.mono HC.out.size))
      clear hB9
      go_wp2
      go_ret
      exact ⟨rfl, HC.out⟩
    · have TT : Hid (isTok s = b3) := by
        show _ = _
        rw [TE.out, B3.out]; simp [h0]
      have q0 := strEmpty_no h0
      clear TE h0
      rcases PC.out with ⟨e0, he0, hp⟩ | hp | ⟨i, hi, hp, hne⟩
      · have PS := Lib.hid hp
        have p1 : (e0 != e0) = false := by simp
        have p2 : (e0 != 0) = true := by simpa using he0
        clear PC hp he0
        go_enter Tryd.func5, Tryd.ntmps5
        go_wp2_with fail
        refine N0.out.mono ?_
        rintro e w1 ⟨rfl, hB1⟩
        rw [B1.out]
        have HC := Lib.hid hB1
        clear hB1
        go_wp2_with fail
        refine (ris_text false _ w1 (by omega)).mono ?_
        rintro e w2 ⟨rfl, hB9⟩
        rw [B1.out]
        have HC := Lib.hid (HC.out.trans (hB9.mono HC.out.size))
        clear hB9
        go_wp2_with fail
        refine (isPlain_any _ w2 (by omega) (HF.out.below HC.out HF.out.size) (HT.out.below HC.out HT.out.size)).mono ?_
        rintro e w3 ⟨rfl, hB9⟩
        rw [B2.out]
        have HC := Lib.hid (HC.out.trans (hB9.mono HC.out.size))
        clear hB9
        go_wp2_with fail
        refine (ris_text true _ w3 (by omega)).mono ?_
        rintro e w4 ⟨rfl, hB9⟩
        rw [B2.out]
        have HC := Lib.hid (HC.out.trans (hB9.mono HC.out.size))
        clear hB9
        go_wp2_with fail
        refine (isToken_any _ w4 (by omega) (HF.out.below HC.out HF.out.size) (HT.out.below HC.out HT.out.size)).mono ?_
        rintro e w5 ⟨rfl, hB9⟩
        rw [TT.out]
        have HC := Lib.hid (HC.out.trans (hB9.mono HC.out.size))
        clear hB9
        have hcv := Lib.run_convert_string_bytes (P := Tryd.prog) w5 9 23 5 s Tryd.underlying9 Tryd.underlying23 Tryd.underlying5
        have RA := Lib.hid (rcall_any 3 (some ⟨w5.heap.size, 0, none⟩) s.size (grownCap w5 s.size 0 5) (bsOf s) _ (by omega) (by omega) (bytesWorld_bytes w5 s))
        have HC := Lib.hid (HC.out.trans ((bytesWorld_below w5 s).mono HC.out.size))
        go_wp2_with fail
        refine (RA.out).mono ?_
        rintro e w6 ⟨rfl, hB9⟩
        rw [B3.out]
        have HC := Lib.hid (HC.out.trans (hB9.mono HC.out.size))
        clear hB9
        clear hcv RA
        have PA := part_any s _ (by omega) (HF.out.below HC.out HF.out.size) (HT.out.below HC.out HT.out.size)
        rw [PS.out] at PA
        have PH := Lib.hid PA
        clear PA
        go_wp2_with fail
        refine (PH.out).mono ?_
        rintro e w7 ⟨rfl, hB9⟩
        have HC := Lib.hid (HC.out.trans (hB9.mono HC.out.size))
        clear hB9
        clear PH
        have PA := rpart_any s w7 (by omega)
        rw [PS.out] at PA
        have PH := Lib.hid PA
        clear PA
        go_wp2_with fail
        refine (PH.out).mono ?_
        rintro e w8 ⟨rfl, hB9⟩
        have HC := Lib.hid (HC.out.trans (hB9.mono HC.out.size))
        clear hB9
        clear PH
        go_wp2_with fail
        refine (live5_any _ (HF.out.below HC.out HF.out.size) (HT.out.below HC.out HT.out.size)).mono ?_
        rintro e w9 ⟨rfl, hB9⟩
        have HC := Lib.hid (HC.out.trans (hB9.mono HC.out.size))
        clear hB9
        go_wp2
        go_ret
        exact ⟨rfl, HC.out⟩
      · have PS := Lib.hid hp
        clear PC hp
        go_enter Tryd.func5, Tryd.ntmps5
        go_wp2_with fail
        refine N0.out.mono ?_
        rintro e w1 ⟨rfl, hB1⟩
        rw [B1.out]
        have HC := Lib.hid hB1
        clear hB1
        go_wp2_with fail
        refine (ris_text false _ w1 (by omega)).mono ?_
        rintro e w2 ⟨rfl, hB9⟩
        rw [B1.out]
        have HC := Lib.hid (HC.out.trans (hB9.mono HC.out.size))
        clear hB9
        go_wp2_with fail
        refine (isPlain_any _ w2 (by omega) (HF.out.below HC.out HF.out.size) (HT.out.below HC.out HT.out.size)).mono ?_
        rintro e w3 ⟨rfl, hB9⟩
        rw [B2.out]
        have HC := Lib.hid (HC.out.trans (hB9.mono HC.out.size))
        clear hB9
        go_wp2_with fail
        refine (ris_text true _ w3 (by omega)).mono ?_
        rintro e w4 ⟨rfl, hB9⟩
        rw [B2.out]
        have HC := Lib.hid (HC.out.trans (hB9.mono HC.out.size))
        clear hB9
        go_wp2_with fail
        refine (isToken_any _ w4 (by omega) (HF.out.below HC.out HF.out.size) (HT.out.below HC.out HT.out.size)).mono ?_
        rintro e w5 ⟨rfl, hB9⟩
        rw [TT.out]
        have HC := Lib.hid (HC.out.trans (hB9.mono HC.out.size))
        clear hB9
        have hcv := Lib.run_convert_string_bytes (P := Tryd.prog) w5 9 23 5 s Tryd.underlying9 Tryd.underlying23 Tryd.underlying5
        have RA := Lib.hid (rcall_any 3 (some ⟨w5.heap.size, 0, none⟩) s.size (grownCap w5 s.size 0 5) (bsOf s) _ (by omega) (by omega) (bytesWorld_bytes w5 s))
        have HC := Lib.hid (HC.out.trans ((bytesWorld_below w5 s).mono HC.out.size))
        go_wp2_with fail
        refine (RA.out).mono ?_
        rintro e w6 ⟨rfl, hB9⟩
        rw [B3.out]
        have HC := Lib.hid (HC.out.trans (hB9.mono HC.out.size))
        clear hB9
        clear hcv RA
        have PA := part_any s _ (by omega) (HF.out.below HC.out HF.out.size) (HT.out.below HC.out HT.out.size)
        rw [PS.out] at PA
        have PH := Lib.hid PA
        clear PA
        go_wp2_with fail
        refine (PH.out).mono ?_
        rintro e w7 ⟨rfl, hB9⟩
        have HC := Lib.hid (HC.out.trans (hB9.mono HC.out.size))
        clear hB9
        clear PH
        have PA := rpart_any s w7 (by omega)
        rw [PS.out] at PA
        have PH := Lib.hid PA
        clear PA
        go_wp2_with fail
        refine (PH.out).mono ?_
        rintro e w8 ⟨rfl, hB9⟩
        have HC := Lib.hid (HC.out.trans (hB9.mono HC.out.size))
        clear hB9
        clear PH
        go_wp2_with fail
        refine (live5_any _ (HF.out.below HC.out HF.out.size) (HT.out.below HC.out HT.out.size)).mono ?_
        rintro e w9 ⟨rfl, hB9⟩
        have HC := Lib.hid (HC.out.trans (hB9.mono HC.out.size))
        clear hB9
        go_wp2
        go_ret
        exact ⟨rfl, HC.out⟩
      · have PS := Lib.hid hp
        have p1 := strEmpty_no hne
        have z1 := ext_size s 0 i
        have z2 := ext_size s (i + 1) s.size
        have hz : (⟨#[58]⟩ : ByteArray).size = 1 := rfl
        have hS1 := fun w' => run_string_add (P := Tryd.prog) w' (s.extract 0 i) ⟨#[58]⟩ (by omega) (by rw [hz]; omega)
        have hS2 := fun w' => run_string_add (P := Tryd.prog) w' (s.extract 0 i ++ ⟨#[58]⟩) (s.extract (i + 1) s.size) (by rw [ByteArray.size_append, hz]; omega) (by omega)
        rw [glue s i hi] at hS2
        clear PC hp hne hi hz
        go_enter Tryd.func5, Tryd.ntmps5
        go_wp2_with fail
        refine N0.out.mono ?_
        rintro e w1 ⟨rfl, hB1⟩
        rw [B1.out]
        have HC := Lib.hid hB1
        clear hB1
        go_wp2_with fail
        refine (ris_text false _ w1 (by omega)).mono ?_
        rintro e w2 ⟨rfl, hB9⟩
        rw [B1.out]
        have HC := Lib.hid (HC.out.trans (hB9.mono HC.out.size))
        clear hB9
        go_wp2_with fail
        refine (isPlain_any _ w2 (by omega) (HF.out.below HC.out HF.out.size) (HT.out.below HC.out HT.out.size)).mono ?_
        rintro e w3 ⟨rfl, hB9⟩
        rw [B2.out]
        have HC := Lib.hid (HC.out.trans (hB9.mono HC.out.size))
        clear hB9
        go_wp2_with fail
        refine (ris_text true _ w3 (by omega)).mono ?_
        rintro e w4 ⟨rfl, hB9⟩
        rw [B2.out]
        have HC := Lib.hid (HC.out.trans (hB9.mono HC.out.size))
        clear hB9
        go_wp2_with fail
        refine (isToken_any _ w4 (by omega) (HF.out.below HC.out HF.out.size) (HT.out.below HC.out HT.out.size)).mono ?_
        rintro e w5 ⟨rfl, hB9⟩
        rw [TT.out]
        have HC := Lib.hid (HC.out.trans (hB9.mono HC.out.size))
        clear hB9
        have hcv := Lib.run_convert_string_bytes (P := Tryd.prog) w5 9 23 5 s Tryd.underlying9 Tryd.underlying23 Tryd.underlying5
        have RA := Lib.hid (rcall_any 3 (some ⟨w5.heap.size, 0, none⟩) s.size (grownCap w5 s.size 0 5) (bsOf s) _ (by omega) (by omega) (bytesWorld_bytes w5 s))
        have HC := Lib.hid (HC.out.trans ((bytesWorld_below w5 s).mono HC.out.size))
        go_wp2_with fail
        refine (RA.out).mono ?_
        rintro e w6 ⟨rfl, hB9⟩
        rw [B3.out]
        have HC := Lib.hid (HC.out.trans (hB9.mono HC.out.size))
        clear hB9
        clear hcv RA
        have PA := part_any s _ (by omega) (HF.out.below HC.out HF.out.size) (HT.out.below HC.out HT.out.size)
        rw [PS.out] at PA
        have PH := Lib.hid PA
        clear PA
        go_wp2_with fail
        refine (PH.out).mono ?_
        rintro e w7 ⟨rfl, hB9⟩
        have HC := Lib.hid (HC.out.trans (hB9.mono HC.out.size))
        clear hB9
        clear PH
        have PA := rpart_any s w7 (by omega)
        rw [PS.out] at PA
        have PH := Lib.hid PA
        clear PA
        go_wp2_with fail
        refine (PH.out).mono ?_
        rintro e w8 ⟨rfl, hB9⟩
        have HC := Lib.hid (HC.out.trans (hB9.mono HC.out.size))
        clear hB9
        clear PH
        go_wp2_with fail
        refine (live5_any _ (HF.out.below HC.out HF.out.size) (HT.out.below HC.out HT.out.size)).mono ?_
        rintro e w9 ⟨rfl, hB9⟩
        have HC := Lib.hid (HC.out.trans (hB9.mono HC.out.size))
        clear hB9
        go_wp2
        go_ret
        exact ⟨rfl, HC.out⟩
end Go.Proofs.YthcehnmkabnjfaaDoor
