/- The walk of QueryReads. Conditions: the tables of chars and of utf hold what the text gives them; the page's example holds. -/
import Derived.Test.YtlifdmehejehjaaDoorQRParse
namespace Go.Proofs.YtlifdmehejehjaaDoor
open Go.RowKit Go.Proofs.YtlifdmehejehjaaDoor.QPlain Go.Proofs.YtlifdmehejehjaaDoor.UtfPlain Go.Proofs.YtlifdmehejehjaaDoor.NamePlain
set_option linter.unusedVariables false
set_option linter.unusedSimpArgs false
theorem one_nm (p : ByteArray) : (oneN p).1.nm.size ≤ p.size := by
  unfold oneN
  split
  · exact Nat.zero_le _
  · split
    · exact Nat.zero_le _
    · exact Nat.le_refl _
theorem steps_nm {ps : List ByteArray} {l : List StN} (h : stepsN ps = some l) (B : Nat) (hb : ∀ p ∈ ps, p.size ≤ B) : ∀ x ∈ l, x.nm.size ≤ B := by
  induction ps generalizing l with
  | nil => cases h; simp
  | cons p ps ih =>
    simp only [stepsN] at h
    split at h
    · cases hq : stepsN ps with
      | none => rw [hq] at h; cases h
      | some m =>
        rw [hq] at h; cases h
        intro x hx
        rcases List.mem_cons.1 hx with rfl | hx
        · exact Nat.le_trans (one_nm p) (hb p (List.mem_cons_self ..))
        · exact ih hq (fun q hq => hb q (List.mem_cons_of_mem _ hq)) x hx
    · cases h
theorem parse_nm (s : ByteArray) : ∀ x ∈ (parseN s).1, x.nm.size ≤ s.size := by
  unfold parseN
  cases h : stepsN (partsN s 0) with
  | none => simp
  | some l =>
    dsimp only
    split
    · simp
    · exact steps_nm h _ (fun p hp => partsN_le s p hp)
theorem parse_len (s : ByteArray) : (parseN s).1.length ≤ 64 := by
  unfold parseN
  cases h : stepsN (partsN s 0) with
  | none => simp
  | some l =>
    dsimp only
    split
    · simp
    · show l.length ≤ 64; omega
set_option maxRecDepth 100000 in
set_option maxHeartbeats 8000000 in
theorem queryReads_in (s : ByteArray) (A' : Option Addr) (m cp' : Nat) (st : List StN) (w : World) (hsz : s.size ≤ 300) (hm : m ≤ 9223372036854775807) (hs : StsAt w A' m st) (hg : greatSt st = false) (hf : FormsAt w) (ht : Tabs w)
    (hv : ∀ W, Below w.heap.size w W → Calls Tryd.prog 8 #[] W (BelB true W)) :
    Calls Tryd.prog 5 #[.string s, .slice A' m cp'] w (BelB true w) := by
  obtain rfl := hs.1
  have G2 := rgreat_any A' st.length cp' st w hm hs
  rw [hg] at G2
  have hgs := greatSt_no hg
  have t0 : ¬ (300 : Int) < (s.size : Int) := by omega
  have hpp := print_parse s
  have hpn := parse_nm s
  have hpl := parse_len s
  have P1 := qparse_any s w (by omega) hf ht
  have P2 := fun W => rparse_any s W (by omega)
  obtain ⟨pl, hpl0⟩ : ∃ pl, pl = (parseN s).1 := ⟨_, rfl⟩
  obtain ⟨pe, hpe0⟩ : ∃ pe, pe = (parseN s).2 := ⟨_, rfl⟩
  have hpe : parseN s = (pl, pe) := by rw [hpl0, hpe0]
  rw [hpe] at hpp hpn hpl P1
  simp only [hpe] at P2
  dsimp only at hpp hpn hpl
  have hpn2 : ∀ x ∈ pl, x.nm.size ≤ 1048576 := fun x hx => Nat.le_trans (hpn x hx) (by omega)
  have hsn2 : ∀ x ∈ st, x.nm.size ≤ 1048576 := fun x hx => Nat.le_trans (hgs.2 x hx) (by decide)
  obtain ⟨pr, hpr⟩ : ∃ pr, pr = printN st := ⟨_, rfl⟩
  have G2 := Lib.hid G2
  have P1 := Lib.hid P1
  have P2 := Lib.hid P2
  have HS := Lib.hid hs
  have HF := Lib.hid hf
  have HT := Lib.hid ht
  have HV := Lib.hid hv
  have HPP := Lib.hid hpp
  have HN2 := Lib.hid hpn2
  have HSN := Lib.hid hsn2
  have HPR := Lib.hid hpr
  have h70 := hgs.1
  clear hs hf ht hv hg hgs hpp hpn hpe hpl0 hpe0 hpn2 hsn2 hpr
  go_enter Tryd.func5, Tryd.ntmps5
  go_wp2_with fail
  refine G2.out.mono ?_
  rintro e w1 ⟨rfl, rfl⟩
  go_wp2_with fail
  refine P1.out.mono ?_
  rintro e w1 ⟨A1, c1, rfl, -, -, hrow, hB1⟩
  dsimp only at hrow
  have S1 := Lib.hid (StsAt.of_own hrow)
  have HB1 := Lib.hid hB1
  clear hrow hB1 P1 G2
  go_wp2_with fail
  refine (P2.out w1).mono ?_
  rintro e w2 ⟨A2, c2, rfl, -, -, hS2, hB2⟩
  have S1 := Lib.hid (S1.out.below hB2)
  have S2 := Lib.hid hS2
  have HB2 := Lib.hid (HB1.out.trans (hB2.mono HB1.out.size))
  clear hS2 hB2 P2 HB1
  go_wp2
  go_loopw [9] (fun v9 wr => ∃ (i d : Nat), i ≤ pl.length ∧ v9 = .int .i64 i ∧ wr = w2.drewN d) (fun v9 _ => pl.length - (intOf v9).toNat)
  case atStart => exact ⟨0, 0, Nat.zero_le _, rfl, rfl⟩
  case round =>
    obtain ⟨i, d, hi, rfl, rfl⟩ := hrel
    by_cases hlt : i < pl.length
    · obtain ⟨a1, x, rfl, hx, -, p0, p1, p2⟩ := S1.out.2 i hlt
      obtain ⟨a2, x2, rfl, hx2, -, q0, q1, q2⟩ := S2.out.2 i hlt
      rw [hx] at hx2
      cases hx2
      have b0 : (0 : Int) ≤ (i : Int) := by omega
      have b1 : (i : Int) < (pl.length : Int) := by omega
      clear hx
      go_wp2
      go_quiet (fail)
      go_wp2
      go_roundw
      case rel => exact ⟨i + 1, _, by omega, by go_num, rfl⟩
      case measure => simp [intOf]; omega
    · obtain rfl : i = pl.length := by omega
      have HBd := Lib.hid (HB2.out.trans (below_drewN _ w2 d))
      have S1 := Lib.hid (S1.out.below (below_drewN w2.heap.size w2 d))
      generalize w2.drewN d = w3 at *
      clear S2 HB2
      go_wp2_with fail
      refine (give_any A' st.length cp' st w3 (by omega) (HS.out.below HBd.out)).mono ?_
      rintro e w4 ⟨A4, c4, rfl, -, -, hrow, hB4⟩
      have HB4 := Lib.hid (HBd.out.trans (hB4.mono HBd.out.size))
      have S1 := Lib.hid (S1.out.below hB4)
      have S4 := Lib.hid (StsAt.of_own hrow)
      clear hrow hB4 HBd
      have PR := print_any A4 st.length c4 st w4 (by omega) S4.out HSN.out (HF.out.below HB4.out HF.out.size) (HT.out.below HB4.out HT.out.size)
      rw [← HPR.out] at PR
      have PR := Lib.hid PR
      go_wp2_with fail
      refine PR.out.mono ?_
      rintro e w5 ⟨rfl, hB5⟩
      have HB5 := Lib.hid (HB4.out.trans (hB5.mono HB4.out.size))
      have S1 := Lib.hid (S1.out.below hB5)
      have RP := rprint_any A' st.length cp' st w5 (by omega) (HS.out.below HB5.out) HSN.out
      rw [← HPR.out] at RP
      have RP := Lib.hid RP
      clear hB5 PR HB4 S4
      go_wp2_with fail
      refine RP.out.mono ?_
      rintro e w6 ⟨rfl, hB6⟩
      have HB6 := Lib.hid (HB5.out.trans (hB6.mono HB5.out.size))
      have S1 := Lib.hid (S1.out.below hB6)
      have PA := print_any A1 pl.length c1 pl w6 (by omega) S1.out HN2.out (HF.out.below HB6.out HF.out.size) (HT.out.below HB6.out HT.out.size)
      obtain ⟨pr2, hpr2⟩ : ∃ pr2, pr2 = printN pl := ⟨_, rfl⟩
      rw [← hpr2] at PA
      have HPR2 := Lib.hid hpr2
      have PA := Lib.hid PA
      clear hB6 RP HB5 hpr2
      go_wp2_with fail
      refine PA.out.mono ?_
      rintro e w7 ⟨rfl, hB7⟩
      have HB7 := Lib.hid (HB6.out.trans (hB7.mono HB6.out.size))
      have LV := Lib.hid (HV.out w7 HB7.out)
      clear hB7 PA HB6
      by_cases hz : pe = 0
      · subst hz
        have h9 := HPR2.out.trans (HPP.out rfl)
        have HL := Lib.hid h9
        clear h9
        cases HL.out
        go_wp2_with fail
        refine LV.out.mono ?_
        rintro e w8 ⟨rfl, hB8⟩
        go_wp2
        go_ret
        exact ⟨rfl, HB7.out.trans (hB8.mono HB7.out.size)⟩
      · have t9 : (pe != 0) = true := by simpa using hz
        clear hz
        go_wp2_with fail
        refine LV.out.mono ?_
        rintro e w8 ⟨rfl, hB8⟩
        go_wp2
        go_ret
        exact ⟨rfl, HB7.out.trans (hB8.mono HB7.out.size)⟩
set_option maxRecDepth 100000 in
set_option maxHeartbeats 4000000 in
theorem queryReads_any (s : ByteArray) (A' : Option Addr) (m cp' : Nat) (st : List StN) (w : World) (hm : m ≤ 9223372036854775807) (hs : StsAt w A' m st) (hf : FormsAt w) (ht : Tabs w)
    (hv : ∀ W, Below w.heap.size w W → Calls Tryd.prog 8 #[] W (BelB true W)) :
    Calls Tryd.prog 5 #[.string s, .slice A' m cp'] w (BelB true w) := by
  have HV := Lib.hid (hv w (Below.refl _ _))
  by_cases h3 : 300 < s.size
  · have t0 : (300 : Int) < (s.size : Int) := by omega
    clear hs hf ht hv h3
    go_enter Tryd.func5, Tryd.ntmps5
    go_wp2_with fail
    refine HV.out.mono ?_
    rintro e w9 ⟨rfl, hB9⟩
    go_wp2
    go_ret
    exact ⟨rfl, hB9⟩
  · cases hg : greatSt st with
    | true =>
      have G2 := rgreat_any A' m cp' st w hm hs
      rw [hg] at G2
      have G2 := Lib.hid G2
      have t0 : ¬ (300 : Int) < (s.size : Int) := by omega
      clear hs hf ht hv h3 hg
      go_enter Tryd.func5, Tryd.ntmps5
      go_wp2_with fail
      refine G2.out.mono ?_
      rintro e w1 ⟨rfl, rfl⟩
      go_wp2_with fail
      refine HV.out.mono ?_
      rintro e w9 ⟨rfl, hB9⟩
      go_wp2
      go_ret
      exact ⟨rfl, hB9⟩
    | false => exact queryReads_in s A' m cp' st w (by omega) hm hs hg hf ht hv
end Go.Proofs.YtlifdmehejehjaaDoor
