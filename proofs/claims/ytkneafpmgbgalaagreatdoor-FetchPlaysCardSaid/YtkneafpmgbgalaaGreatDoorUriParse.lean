/- The contract of uri.Parse: an identifier in normal form, or an error. Conditions: at most 2^20 bytes; internal/bytealg.MaxLen holds an int. -/
import Derived.Test.YtkneafpmgbgalaaGreatDoorUriDots
import Derived.Deep.RegionHeld3
namespace Go.Proofs.YtkneafpmgbgalaaGreatDoor
open Go.RowKit Go.Proofs.YtkneafpmgbgalaaGreatDoor.CharsPlain Go.Proofs.YtkneafpmgbgalaaGreatDoor.UriPlain
set_option linter.unusedVariables false
set_option linter.unusedSimpArgs false
/-- What uri.Parse tells. -/
def uriE (l : List UInt8) : Int := if 4096 < l.length then 13 else match parseU l with | some _ => 0 | none => 7
def uriU (l : List UInt8) : List UInt8 × List UInt8 × List UInt8 := if 4096 < l.length then ([], [], []) else match parseU l with | some u => u | none => ([], [], [])
def uriV (u : List UInt8 × List UInt8 × List UInt8) : Value := .agg #[.string (bS u.1), .string (bS u.2.1), .string (bS u.2.2)]
def TellUri (l : List UInt8) (w : World) (e : Ending) (w' : World) : Prop := e = .returned (.tuple #[uriV (uriU l), .int .i64 (uriE l)]) ∧ Below w.heap.size w w'
theorem TellUri.big {l : List UInt8} {w w' : World} (h : 4096 < l.length) (hb : Below w.heap.size w w') : TellUri l w (.returned (.tuple #[.agg #[.string ⟨#[]⟩, .string ⟨#[]⟩, .string ⟨#[]⟩], .int .i64 13])) w' := by
  refine ⟨?_, hb⟩
  rw [uriU, uriE, if_pos h, if_pos h]; rfl
theorem TellUri.none {l : List UInt8} {w w' : World} (h : ¬ 4096 < l.length) (h2 : parseU l = Option.none) (hb : Below w.heap.size w w') : TellUri l w (.returned (.tuple #[.agg #[.string ⟨#[]⟩, .string ⟨#[]⟩, .string ⟨#[]⟩], .int .i64 7])) w' := by
  refine ⟨?_, hb⟩
  rw [uriU, uriE, if_neg h, if_neg h, h2]; rfl
theorem TellUri.some {l : List UInt8} {u : List UInt8 × List UInt8 × List UInt8} {w w' : World} (h : ¬ 4096 < l.length) (h2 : parseU l = Option.some u) (hb : Below w.heap.size w w') : TellUri l w (.returned (.tuple #[.agg #[.string (bS u.1), .string (bS u.2.1), .string (bS u.2.2)], .int .i64 0])) w' := by
  refine ⟨?_, hb⟩
  rw [uriU, uriE, if_neg h, if_neg h, h2]; rfl
theorem parse_no {l : List UInt8} (h : okU l = false) : parseU l = none := by unfold parseU; rw [h]; rfl
theorem parse_no2 {l : List UInt8} (h : decP (pathU (Lib.cut l sep3).2.1) = none) : parseU l = none := by unfold parseU; rw [h]; split <;> rfl
theorem extract_host (r : ByteArray) (k : Nat) : (r.extract 0 k).data.toList = r.data.toList.take k := by
  simp [ByteArray.data_extract]
theorem all_ascii (some l : List UInt8) (h : allU some l = true) (hs : ∀ c ∈ some, c.toNat < 128) : ∀ (j : Nat) (b : UInt8), l[j]? = Option.some b → b.toNat < 128 := by
  intro j b hj
  unfold allU at h
  simp only [Bool.and_eq_true, List.all_eq_true] at h
  have h1 := h.1 b (List.mem_of_getElem? hj)
  unfold amU amI at h1
  simp only [Bool.or_eq_true] at h1
  rcases h1 with (h1 | h1) | h1
  · unfold letN at h1; simp at h1; omega
  · simp at h1; omega
  · have := hs _ (List.contains_iff_mem.1 h1)
    simpa using this
theorem okU_of {l S R : List UInt8} {ok : Bool} (h : Lib.cut l sep3 = (S, R, ok)) : okU l = (ok && allU schS S && letH S && allU hostS (hostU R)) := by unfold okU; rw [h]
theorem parse_yes {l S R p : List UInt8} (h : Lib.cut l sep3 = (S, R, true)) (h2 : allU schS S = true) (h3 : letH S = true) (h4 : allU hostS (hostU R) = true) (hp : decP (pathU R) = some p) : parseU l = some (Lib.toLowerA S, Lib.toLowerA (hostU R), dotsL p) := by
  have : okU l = true := by rw [okU_of h, h2, h3, h4]; rfl
  unfold parseU
  rw [if_pos this, h]
  simp only [hp, Option.map_some]
theorem letH_at (s : ByteArray) (h : 0 < s.size) : letH s.data.toList = letN (s[0].toNat : Int) := by
  have g : s.data.toList[0]'(by rw [len3]; exact h) = s[0] := rfl
  have e : s.data.toList = s.data.toList[0]'(by rw [len3]; exact h) :: s.data.toList.drop 1 := by rw [List.getElem_cons_drop, List.drop_zero]
  rw [e, g]; rfl
theorem below_three {b : Nat} {w w' : World} {x y z : Value} (h : Below b w w') : Below b w (((w'.setCell ⟨b, 0, none⟩ x).setCell ⟨b, 1, none⟩ y).setCell ⟨b, 2, none⟩ z) :=
  ((h.setCell (p := ⟨b, 0, none⟩) (Nat.le_refl _) x).setCell (p := ⟨b, 1, none⟩) (Nat.le_refl _) y).setCell (p := ⟨b, 2, none⟩) (Nat.le_refl _) z
/-- The result's block: nothing in it yet. -/
def UBlk (b : Nat) (w : World) : Prop := w.heap[b]? = some (.cells #[.string ⟨#[]⟩, .string ⟨#[]⟩, .string ⟨#[]⟩] 84 (0, 0))
theorem UBlk.below {b : Nat} {w w' : World} (h : UBlk b w) (hb : Below w.heap.size w w') : UBlk b w' := by
  unfold UBlk at *
  rw [hb.block b (Array.getElem?_eq_some_iff.1 h).1]; exact h
theorem UBlk.cells {b : Nat} {w : World} (h : UBlk b w) : w.cell? ⟨b, 0, none⟩ = some (.string ⟨#[]⟩) ∧ w.cell? ⟨b, 1, none⟩ = some (.string ⟨#[]⟩) ∧ w.cell? ⟨b, 2, none⟩ = some (.string ⟨#[]⟩) ∧ w.frozen? ⟨b, 0, none⟩ = false ∧ w.frozen? ⟨b, 1, none⟩ = false ∧ w.frozen? ⟨b, 2, none⟩ = false := by
  unfold UBlk at h
  exact ⟨by rw [Lib.cell_of_heap h]; rfl, by rw [Lib.cell_of_heap h]; rfl, by rw [Lib.cell_of_heap h]; rfl, Lib.frozen_of_heap h 0, Lib.frozen_of_heap h 1, Lib.frozen_of_heap h 2⟩
set_option maxRecDepth 100000 in
set_option maxHeartbeats 4000000 in
theorem parse_any (s : ByteArray) (w : World) (m : Int) (hs : s.size ≤ 1048576) (hm : w.cell? ⟨0, 0, none⟩ = some (.int .i64 m)) : Calls Tryz.prog 44 #[.string s] w (TellUri s.data.toList w) := by
  have B0 := Lib.hid ((Below.refl w.heap.size w).alloc (Nat.le_refl _) (.cells #[.string ⟨#[]⟩, .string ⟨#[]⟩, .string ⟨#[]⟩] 84))
  by_cases hb : 4096 < s.size
  · have b1 : (4096 : Int) < (s.size : Int) := by omega
    have HB := Lib.hid hb
    clear hb
    go_enter Tryz.func44, Tryz.ntmps44
    go_wp2
    refine bodyPost_ret (v := .tuple #[.agg #[.string ⟨#[]⟩, .string ⟨#[]⟩, .string ⟨#[]⟩], .int .i64 13]) (by simp [results, Tryz.results44, go_sem]) rfl ?_
    exact TellUri.big (by rw [len3]; exact HB.out) B0.out
  · have b1 : ¬ (4096 : Int) < (s.size : Int) := by omega
    have HB : Hid (¬ 4096 < s.data.toList.length) := by show ¬ _; rw [len3]; exact hb
    obtain ⟨W, hW⟩ : ∃ W, W = w.alloc (.cells #[.string ⟨#[]⟩, .string ⟨#[]⟩, .string ⟨#[]⟩] 84) := ⟨_, rfl⟩
    obtain ⟨S, hS⟩ : ∃ S, S = bS (Lib.cut s.data.toList sep3).1 := ⟨_, rfl⟩
    obtain ⟨R, hR⟩ : ∃ R, R = bS (Lib.cut s.data.toList sep3).2.1 := ⟨_, rfl⟩
    obtain ⟨ok, hok⟩ : ∃ ok, ok = (Lib.cut s.data.toList sep3).2.2 := ⟨_, rfl⟩
    have hm1 : W.cell? ⟨0, 0, none⟩ = some (.int .i64 m) := by
      rw [← hm, hW]
      exact ((Below.refl w.heap.size w).alloc (Nat.le_refl _) _).cell (p := ⟨0, 0, none⟩) (World.block_lt_of_cell? _ _ hm)
    have C1 := Tryz.strings_Cut s ⟨#[58, 47, 47]⟩ m W (by omega) hm1
    rw [show (ByteArray.mk #[58, 47, 47]).data.toList = sep3 from rfl] at C1
    rw [show ByteArray.mk (Lib.cut s.data.toList sep3).1.toArray = S from hS.symm, show ByteArray.mk (Lib.cut s.data.toList sep3).2.1.toArray = R from hR.symm, ← hok] at C1
    have C1 := Lib.hid C1
    have hUB : UBlk w.heap.size W := by
      show W.heap[w.heap.size]? = _
      rw [hW, World.alloc]; simp
    have hBW : Below w.heap.size w W := by rw [hW]; exact (Below.refl _ _).alloc (Nat.le_refl _) _
    have hRS : R.size ≤ s.size := by
      rw [hR, bS_size, ← len3 s]
      unfold Lib.cut
      split
      · simp only [List.length_drop]; omega
      · simp
    have HR := Lib.hid hR
    have HS := Lib.hid hS
    have HCUT : Hid (Lib.cut s.data.toList sep3 = (S.data.toList, R.data.toList, ok)) := by
      show _ = _
      rw [hS, hR, hok]; rfl
    have hSS : S.size ≤ s.size := by
      rw [hS, bS_size, ← len3 s]
      unfold Lib.cut
      split
      · simp only [List.length_take]; omega
      · exact Nat.le_refl _
    have HUB := Lib.hid hUB
    have HBW := Lib.hid hBW
    have HM := Lib.hid hm
    have HWW := Lib.hid hW
    clear hb hR hS hok hUB hBW hm hm1 hW B0
    go_enter Tryz.func44, Tryz.ntmps44
    go_wp2_with fail
    rw [← HWW.out]
    refine C1.out.mono ?_
    rintro e w1' ⟨rfl, d, hd⟩
    have HB1 : Hid (Below w.heap.size w w1') := by show Below _ _ _; rw [hd]; exact below_drewN HBW.out d
    have HUB1 : Hid (UBlk w.heap.size w1') := by show UBlk _ _; rw [hd]; exact HUB.out
    clear hd HUB HBW HWW C1
    have IB := Lib.hid (slash_at R.data.toList _ rfl)
    obtain ⟨n0, hn0⟩ : ∃ n0, n0 = Lib.indexByte R.data.toList 47 := ⟨_, rfl⟩
    rw [← hn0] at IB
    have HN0 := Lib.hid hn0
    have HG : Hid (-1 ≤ n0) := by show _ ≤ _; rw [hn0]; exact Lib.indexByte_ge _ _
    clear hn0
    go_wp2_with fail
    refine (Tryz.strings_IndexByte R 47 w1').mono ?_
    rintro e w' ⟨rfl, rfl⟩
    rw [show Lib.indexByte R.data.toList (47 : Int).toNat.toUInt8 = n0 from HN0.out.symm]
    by_cases h0 : n0 < 0
    · have HH : Hid (R = bS (hostU R.data.toList)) := by
        show _ = _
        rw [(IB.out.1 h0).1]; exact (bS_of R).symm
      have HP : Hid (ByteArray.empty = bS (pathU R.data.toList)) := by
        show _ = _
        rw [(IB.out.1 h0).2]; rfl
      clear IB HG
      go_wp2_with fail
      refine (decoded_any (ByteArray.empty) _ (by show (0 : Nat) ≤ _; omega)).mono ?_
      rintro e w2 ⟨t, b, rfl, hbq, ht, hb2⟩
      rw [show (ByteArray.empty).data.toList = pathU R.data.toList from congrArg (fun x => x.data.toList) HP.out] at hbq ht
      have HB2 := Lib.hid (HB1.out.trans (hb2.mono HB1.out.size))
      have HUB2 := Lib.hid (HUB1.out.below hb2)
      have HBQ := Lib.hid hbq
      have HT := Lib.hid ht
      clear hbq ht hb2 HB1 HUB1
      cases ok with
      | false =>
        have HNO : Hid (parseU s.data.toList = none) := parse_no (by rw [okU_of HCUT.out]; simp)
        obtain ⟨q0, q1, q2, f0, f1, f2⟩ := HUB2.out.cells
        go_wp2
        refine bodyPost_ret (v := .tuple #[.agg #[.string ⟨#[]⟩, .string ⟨#[]⟩, .string ⟨#[]⟩], .int .i64 7]) (by simp [results, Tryz.results44, go_sem, q0, q1, q2]) rfl ?_
        exact TellUri.none HB.out HNO.out (by first | exact below_three HB2.out | exact HB2.out)
      | true =>
        cases b with
        | false =>
          have HNO : Hid (parseU s.data.toList = none) := parse_no2 (by rw [HCUT.out]; have := HBQ.out; cases hd : decP (pathU R.data.toList) with | none => rfl | some p => rw [hd] at this; cases this)
          obtain ⟨q0, q1, q2, f0, f1, f2⟩ := HUB2.out.cells
          go_wp2
          refine bodyPost_ret (v := .tuple #[.agg #[.string ⟨#[]⟩, .string ⟨#[]⟩, .string ⟨#[]⟩], .int .i64 7]) (by simp [results, Tryz.results44, go_sem, q0, q1, q2]) rfl ?_
          exact TellUri.none HB.out HNO.out (by first | exact below_three HB2.out | exact HB2.out)
        | true =>
          obtain ⟨p, hp⟩ : ∃ p, decP (pathU R.data.toList) = some p := by
            have := HBQ.out
            cases hd : decP (pathU R.data.toList) with
            | none => rw [hd] at this; cases this
            | some p => exact ⟨p, rfl⟩
          have HPP := Lib.hid hp
          have htp : t = bS p := HT.out p hp
          have htl : t.size ≤ 1048576 := by
            rw [htp, bS_size]
            have h1 := decP_length _ _ hp
            have h2 := congrArg List.length (host_path R.data.toList)
            rw [List.length_append, len3] at h2
            omega
          have HTP := Lib.hid htp
          clear hp htp HT HBQ
          cases h2 : allU schS S.data.toList with
          | false =>
            have H2 := Lib.hid h2
            clear h2
            have HNO : Hid (parseU s.data.toList = none) := parse_no (by rw [okU_of HCUT.out]; rw [H2.out]; simp)
            obtain ⟨q0, q1, q2, f0, f1, f2⟩ := HUB2.out.cells
            go_wp2_with fail
            go_at_call 58
            refine (all_any S _ _ (by omega)).mono ?_
            rintro e w3 ⟨rfl, hw3⟩
            subst hw3
            rw [show allU (ByteArray.mk #[43, 45, 46]).data.toList S.data.toList = false from H2.out]
            go_wp2
            refine bodyPost_ret (v := .tuple #[.agg #[.string ⟨#[]⟩, .string ⟨#[]⟩, .string ⟨#[]⟩], .int .i64 7]) (by simp [results, Tryz.results44, go_sem, q0, q1, q2]) rfl ?_
            exact TellUri.none HB.out HNO.out (by first | exact below_three HB2.out | exact HB2.out)
          | true =>
            have H2 := Lib.hid h2
            have hS0 : 0 < S.size := by
              rw [← len3 S]
              unfold allU at h2
              simp only [Bool.and_eq_true, Bool.not_eq_true', List.isEmpty_eq_false_iff] at h2
              exact List.length_pos_iff.2 h2.2
            have hS1 : (0 : Int) < (S.size : Int) := by omega
            have HLH := Lib.hid (letH_at S hS0)
            clear h2
            cases h3 : letN (S[0].toNat : Int) with
            | false =>
              have H3 := Lib.hid h3
              clear h3
              have HNO : Hid (parseU s.data.toList = none) := parse_no (by rw [okU_of HCUT.out]; rw [HLH.out, H3.out]; simp)
              obtain ⟨q0, q1, q2, f0, f1, f2⟩ := HUB2.out.cells
              go_wp2_with fail
              go_at_call 58
              refine (all_any S _ _ (by omega)).mono ?_
              rintro e w3 ⟨rfl, hw3⟩
              subst hw3
              rw [show allU (ByteArray.mk #[43, 45, 46]).data.toList S.data.toList = true from H2.out]
              go_wp2_with fail
              go_at_call 59
              refine (uletter_any _ _).mono ?_
              rintro e w3 ⟨rfl, hw3⟩
              subst hw3
              rw [H3.out]
              go_wp2
              refine bodyPost_ret (v := .tuple #[.agg #[.string ⟨#[]⟩, .string ⟨#[]⟩, .string ⟨#[]⟩], .int .i64 7]) (by simp [results, Tryz.results44, go_sem, q0, q1, q2]) rfl ?_
              exact TellUri.none HB.out HNO.out (by first | exact below_three HB2.out | exact HB2.out)
            | true =>
              have H3 := Lib.hid h3
              clear h3
              cases h4 : allU hostS (R).data.toList with
              | false =>
                have H4 := Lib.hid h4
                clear h4
                have HNO : Hid (parseU s.data.toList = none) := parse_no (by rw [okU_of HCUT.out]; rw [← (show (R).data.toList = hostU R.data.toList from congrArg (fun x => x.data.toList) HH.out), H4.out]; simp)
                obtain ⟨q0, q1, q2, f0, f1, f2⟩ := HUB2.out.cells
                go_wp2_with fail
                go_at_call 58
                refine (all_any S _ _ (by omega)).mono ?_
                rintro e w3 ⟨rfl, hw3⟩
                subst hw3
                rw [show allU (ByteArray.mk #[43, 45, 46]).data.toList S.data.toList = true from H2.out]
                go_wp2_with fail
                go_at_call 59
                refine (uletter_any _ _).mono ?_
                rintro e w3 ⟨rfl, hw3⟩
                subst hw3
                rw [H3.out]
                go_wp2_with fail
                go_at_call 58
                refine (all_any (R) _ _ (by omega)).mono ?_
                rintro e w3 ⟨rfl, hw3⟩
                subst hw3
                rw [show allU (ByteArray.mk #[45, 46, 58]).data.toList (R).data.toList = false from H4.out]
                go_wp2
                refine bodyPost_ret (v := .tuple #[.agg #[.string ⟨#[]⟩, .string ⟨#[]⟩, .string ⟨#[]⟩], .int .i64 7]) (by simp [results, Tryz.results44, go_sem, q0, q1, q2]) rfl ?_
                exact TellUri.none HB.out HNO.out (by first | exact below_three HB2.out | exact HB2.out)
              | true =>
                have H4 := Lib.hid h4
                clear h4
                have HYES : Hid (parseU s.data.toList = some (Lib.toLowerA S.data.toList, Lib.toLowerA (R).data.toList, dotsL t.data.toList)) := by
                  show _ = _
                  have e1 : (R).data.toList = hostU R.data.toList := congrArg (fun x => x.data.toList) HH.out
                  rw [e1, HTP.out]
                  exact parse_yes HCUT.out H2.out (by rw [HLH.out, H3.out]) (by rw [← e1]; exact H4.out) HPP.out
                have hm2 : w2.cell? ⟨0, 0, none⟩ = some (.int .i64 m) := (HB2.out.cell (p := ⟨0, 0, none⟩) (World.block_lt_of_cell? _ _ HM.out)).trans HM.out
                have HM2 := Lib.hid hm2
                have HAS := Lib.hid (all_ascii _ _ H2.out (by decide))
                have HAH := Lib.hid (all_ascii _ _ H4.out (by decide))
                clear hm2
                go_wp2_with fail
                go_at_call 58
                refine (all_any S _ _ (by omega)).mono ?_
                rintro e w3 ⟨rfl, hw3⟩
                subst hw3
                rw [show allU (ByteArray.mk #[43, 45, 46]).data.toList S.data.toList = true from H2.out]
                go_wp2_with fail
                go_at_call 59
                refine (uletter_any _ _).mono ?_
                rintro e w3 ⟨rfl, hw3⟩
                subst hw3
                rw [H3.out]
                go_wp2_with fail
                go_at_call 58
                refine (all_any (R) _ _ (by omega)).mono ?_
                rintro e w3 ⟨rfl, hw3⟩
                subst hw3
                rw [show allU (ByteArray.mk #[45, 46, 58]).data.toList (R).data.toList = true from H4.out]
                go_wp2_with fail
                go_region_held3 (fun _ => True) (trivial)
                  (first
                  | (go_at_call 60
                     (with_reducible refine (Tryz.strings_ToLower_ascii S _ (by omega) HAS.out).mono ?_)
                     rintro e w3 ⟨rfl, hb3⟩
                     have hb3 : Below w2.heap.size w2 w3 := (Below.refl w2.heap.size w2).drew.trans hb3
                     have HM3 : Hid (w3.cell? ⟨0, 0, none⟩ = some (.int .i64 m)) := (hb3.cell (p := ⟨0, 0, none⟩) (World.block_lt_of_cell? _ _ HM2.out)).trans HM2.out
                     have HB3 := Lib.hid (HB2.out.trans (hb3.mono HB2.out.size))
                     have HUB3 := Lib.hid (HUB2.out.below hb3)
                     clear hb3)
                  | (go_at_call 60
                     (with_reducible refine (Tryz.strings_ToLower_ascii (R) w3 (by omega) HAH.out).mono ?_)
                     rintro e w4 ⟨rfl, hb4⟩
                     have HM4 : Hid (w4.cell? ⟨0, 0, none⟩ = some (.int .i64 m)) := (hb4.cell (p := ⟨0, 0, none⟩) (World.block_lt_of_cell? _ _ HM3.out)).trans HM3.out
                     have HB4 := Lib.hid (HB3.out.trans (hb4.mono HB3.out.size))
                     have HUB4 := Lib.hid (HUB3.out.below hb4)
                     clear hb4)
                  | (go_at_call 61
                     (with_reducible refine (dots_any t w4 m htl HM4.out).mono ?_)
                     rintro e w5 ⟨rfl, hb5⟩
                     have HB5 := Lib.hid (HB4.out.trans (hb5.mono HB4.out.size))
                     obtain ⟨q0, q1, q2, f0, f1, f2⟩ := (HUB4.out.below hb5).cells
                     clear hb5))
                go_wp2
                refine bodyPost_ret (v := .tuple #[.agg #[.string (bS (Lib.toLowerA S.data.toList)), .string (bS (Lib.toLowerA (R).data.toList)), .string (bS (dotsL t.data.toList))], .int .i64 0]) (by simp [results, Tryz.results44, go_sem, q0, q1, q2, bS]) rfl ?_
                exact TellUri.some HB.out HYES.out (by first | exact below_three HB5.out | exact HB5.out)
    · obtain ⟨N, hN⟩ : ∃ N : Nat, n0 = N := Int.eq_ofNat_of_zero_le (by omega)
      subst hN
      obtain ⟨i1, i2, i3⟩ := IB.out.2 (by omega)
      rw [Int.toNat_natCast] at i1 i2 i3
      rw [len3] at i1
      have hN1 : (N : Int) ≤ (R.size : Int) := by omega
      have HH : Hid (R.extract 0 N = bS (hostU R.data.toList)) := by
        show _ = _
        rw [← bS_of (R.extract 0 N), extract_host, i2]
      have HP : Hid (R.extract N R.size = bS (pathU R.data.toList)) := by
        show _ = _
        rw [← bS_of (R.extract N R.size), drop_extract, i3]
      clear IB HG i2 i3
      go_wp2_with fail
      refine (decoded_any (R.extract N R.size) _ (by rw [ByteArray.size_extract, Nat.min_self]; omega)).mono ?_
      rintro e w2 ⟨t, b, rfl, hbq, ht, hb2⟩
      rw [show (R.extract N R.size).data.toList = pathU R.data.toList from congrArg (fun x => x.data.toList) HP.out] at hbq ht
      have HB2 := Lib.hid (HB1.out.trans (hb2.mono HB1.out.size))
      have HUB2 := Lib.hid (HUB1.out.below hb2)
      have HBQ := Lib.hid hbq
      have HT := Lib.hid ht
      clear hbq ht hb2 HB1 HUB1
      cases ok with
      | false =>
        have HNO : Hid (parseU s.data.toList = none) := parse_no (by rw [okU_of HCUT.out]; simp)
        obtain ⟨q0, q1, q2, f0, f1, f2⟩ := HUB2.out.cells
        go_wp2
        refine bodyPost_ret (v := .tuple #[.agg #[.string ⟨#[]⟩, .string ⟨#[]⟩, .string ⟨#[]⟩], .int .i64 7]) (by simp [results, Tryz.results44, go_sem, q0, q1, q2]) rfl ?_
        exact TellUri.none HB.out HNO.out (by first | exact below_three HB2.out | exact HB2.out)
      | true =>
        cases b with
        | false =>
          have HNO : Hid (parseU s.data.toList = none) := parse_no2 (by rw [HCUT.out]; have := HBQ.out; cases hd : decP (pathU R.data.toList) with | none => rfl | some p => rw [hd] at this; cases this)
          obtain ⟨q0, q1, q2, f0, f1, f2⟩ := HUB2.out.cells
          go_wp2
          refine bodyPost_ret (v := .tuple #[.agg #[.string ⟨#[]⟩, .string ⟨#[]⟩, .string ⟨#[]⟩], .int .i64 7]) (by simp [results, Tryz.results44, go_sem, q0, q1, q2]) rfl ?_
          exact TellUri.none HB.out HNO.out (by first | exact below_three HB2.out | exact HB2.out)
        | true =>
          obtain ⟨p, hp⟩ : ∃ p, decP (pathU R.data.toList) = some p := by
            have := HBQ.out
            cases hd : decP (pathU R.data.toList) with
            | none => rw [hd] at this; cases this
            | some p => exact ⟨p, rfl⟩
          have HPP := Lib.hid hp
          have htp : t = bS p := HT.out p hp
          have htl : t.size ≤ 1048576 := by
            rw [htp, bS_size]
            have h1 := decP_length _ _ hp
            have h2 := congrArg List.length (host_path R.data.toList)
            rw [List.length_append, len3] at h2
            omega
          have HTP := Lib.hid htp
          clear hp htp HT HBQ
          cases h2 : allU schS S.data.toList with
          | false =>
            have H2 := Lib.hid h2
            clear h2
            have HNO : Hid (parseU s.data.toList = none) := parse_no (by rw [okU_of HCUT.out]; rw [H2.out]; simp)
            obtain ⟨q0, q1, q2, f0, f1, f2⟩ := HUB2.out.cells
            go_wp2_with fail
            go_at_call 58
            refine (all_any S _ _ (by omega)).mono ?_
            rintro e w3 ⟨rfl, hw3⟩
            subst hw3
            rw [show allU (ByteArray.mk #[43, 45, 46]).data.toList S.data.toList = false from H2.out]
            go_wp2
            refine bodyPost_ret (v := .tuple #[.agg #[.string ⟨#[]⟩, .string ⟨#[]⟩, .string ⟨#[]⟩], .int .i64 7]) (by simp [results, Tryz.results44, go_sem, q0, q1, q2]) rfl ?_
            exact TellUri.none HB.out HNO.out (by first | exact below_three HB2.out | exact HB2.out)
          | true =>
            have H2 := Lib.hid h2
            have hS0 : 0 < S.size := by
              rw [← len3 S]
              unfold allU at h2
              simp only [Bool.and_eq_true, Bool.not_eq_true', List.isEmpty_eq_false_iff] at h2
              exact List.length_pos_iff.2 h2.2
            have hS1 : (0 : Int) < (S.size : Int) := by omega
            have HLH := Lib.hid (letH_at S hS0)
            clear h2
            cases h3 : letN (S[0].toNat : Int) with
            | false =>
              have H3 := Lib.hid h3
              clear h3
              have HNO : Hid (parseU s.data.toList = none) := parse_no (by rw [okU_of HCUT.out]; rw [HLH.out, H3.out]; simp)
              obtain ⟨q0, q1, q2, f0, f1, f2⟩ := HUB2.out.cells
              go_wp2_with fail
              go_at_call 58
              refine (all_any S _ _ (by omega)).mono ?_
              rintro e w3 ⟨rfl, hw3⟩
              subst hw3
              rw [show allU (ByteArray.mk #[43, 45, 46]).data.toList S.data.toList = true from H2.out]
              go_wp2_with fail
              go_at_call 59
              refine (uletter_any _ _).mono ?_
              rintro e w3 ⟨rfl, hw3⟩
              subst hw3
              rw [H3.out]
              go_wp2
              refine bodyPost_ret (v := .tuple #[.agg #[.string ⟨#[]⟩, .string ⟨#[]⟩, .string ⟨#[]⟩], .int .i64 7]) (by simp [results, Tryz.results44, go_sem, q0, q1, q2]) rfl ?_
              exact TellUri.none HB.out HNO.out (by first | exact below_three HB2.out | exact HB2.out)
            | true =>
              have H3 := Lib.hid h3
              clear h3
              cases h4 : allU hostS (R.extract 0 N).data.toList with
              | false =>
                have H4 := Lib.hid h4
                clear h4
                have HNO : Hid (parseU s.data.toList = none) := parse_no (by rw [okU_of HCUT.out]; rw [← (show (R.extract 0 N).data.toList = hostU R.data.toList from congrArg (fun x => x.data.toList) HH.out), H4.out]; simp)
                obtain ⟨q0, q1, q2, f0, f1, f2⟩ := HUB2.out.cells
                go_wp2_with fail
                go_at_call 58
                refine (all_any S _ _ (by omega)).mono ?_
                rintro e w3 ⟨rfl, hw3⟩
                subst hw3
                rw [show allU (ByteArray.mk #[43, 45, 46]).data.toList S.data.toList = true from H2.out]
                go_wp2_with fail
                go_at_call 59
                refine (uletter_any _ _).mono ?_
                rintro e w3 ⟨rfl, hw3⟩
                subst hw3
                rw [H3.out]
                go_wp2_with fail
                go_at_call 58
                refine (all_any (R.extract 0 N) _ _ (by rw [ByteArray.size_extract]; omega)).mono ?_
                rintro e w3 ⟨rfl, hw3⟩
                subst hw3
                rw [show allU (ByteArray.mk #[45, 46, 58]).data.toList (R.extract 0 N).data.toList = false from H4.out]
                go_wp2
                refine bodyPost_ret (v := .tuple #[.agg #[.string ⟨#[]⟩, .string ⟨#[]⟩, .string ⟨#[]⟩], .int .i64 7]) (by simp [results, Tryz.results44, go_sem, q0, q1, q2]) rfl ?_
                exact TellUri.none HB.out HNO.out (by first | exact below_three HB2.out | exact HB2.out)
              | true =>
                have H4 := Lib.hid h4
                clear h4
                have HYES : Hid (parseU s.data.toList = some (Lib.toLowerA S.data.toList, Lib.toLowerA (R.extract 0 N).data.toList, dotsL t.data.toList)) := by
                  show _ = _
                  have e1 : (R.extract 0 N).data.toList = hostU R.data.toList := congrArg (fun x => x.data.toList) HH.out
                  rw [e1, HTP.out]
                  exact parse_yes HCUT.out H2.out (by rw [HLH.out, H3.out]) (by rw [← e1]; exact H4.out) HPP.out
                have hm2 : w2.cell? ⟨0, 0, none⟩ = some (.int .i64 m) := (HB2.out.cell (p := ⟨0, 0, none⟩) (World.block_lt_of_cell? _ _ HM.out)).trans HM.out
                have HM2 := Lib.hid hm2
                have HAS := Lib.hid (all_ascii _ _ H2.out (by decide))
                have HAH := Lib.hid (all_ascii _ _ H4.out (by decide))
                clear hm2
                go_wp2_with fail
                go_at_call 58
                refine (all_any S _ _ (by omega)).mono ?_
                rintro e w3 ⟨rfl, hw3⟩
                subst hw3
                rw [show allU (ByteArray.mk #[43, 45, 46]).data.toList S.data.toList = true from H2.out]
                go_wp2_with fail
                go_at_call 59
                refine (uletter_any _ _).mono ?_
                rintro e w3 ⟨rfl, hw3⟩
                subst hw3
                rw [H3.out]
                go_wp2_with fail
                go_at_call 58
                refine (all_any (R.extract 0 N) _ _ (by rw [ByteArray.size_extract]; omega)).mono ?_
                rintro e w3 ⟨rfl, hw3⟩
                subst hw3
                rw [show allU (ByteArray.mk #[45, 46, 58]).data.toList (R.extract 0 N).data.toList = true from H4.out]
                go_wp2_with fail
                go_region_held3 (fun _ => True) (trivial)
                  (first
                  | (go_at_call 60
                     (with_reducible refine (Tryz.strings_ToLower_ascii S _ (by omega) HAS.out).mono ?_)
                     rintro e w3 ⟨rfl, hb3⟩
                     have hb3 : Below w2.heap.size w2 w3 := (Below.refl w2.heap.size w2).drew.trans hb3
                     have HM3 : Hid (w3.cell? ⟨0, 0, none⟩ = some (.int .i64 m)) := (hb3.cell (p := ⟨0, 0, none⟩) (World.block_lt_of_cell? _ _ HM2.out)).trans HM2.out
                     have HB3 := Lib.hid (HB2.out.trans (hb3.mono HB2.out.size))
                     have HUB3 := Lib.hid (HUB2.out.below hb3)
                     clear hb3)
                  | (go_at_call 60
                     (with_reducible refine (Tryz.strings_ToLower_ascii (R.extract 0 N) w3 (by rw [ByteArray.size_extract]; omega) HAH.out).mono ?_)
                     rintro e w4 ⟨rfl, hb4⟩
                     have HM4 : Hid (w4.cell? ⟨0, 0, none⟩ = some (.int .i64 m)) := (hb4.cell (p := ⟨0, 0, none⟩) (World.block_lt_of_cell? _ _ HM3.out)).trans HM3.out
                     have HB4 := Lib.hid (HB3.out.trans (hb4.mono HB3.out.size))
                     have HUB4 := Lib.hid (HUB3.out.below hb4)
                     clear hb4)
                  | (go_at_call 61
                     (with_reducible refine (dots_any t w4 m htl HM4.out).mono ?_)
                     rintro e w5 ⟨rfl, hb5⟩
                     have HB5 := Lib.hid (HB4.out.trans (hb5.mono HB4.out.size))
                     obtain ⟨q0, q1, q2, f0, f1, f2⟩ := (HUB4.out.below hb5).cells
                     clear hb5))
                go_wp2
                refine bodyPost_ret (v := .tuple #[.agg #[.string (bS (Lib.toLowerA S.data.toList)), .string (bS (Lib.toLowerA (R.extract 0 N).data.toList)), .string (bS (dotsL t.data.toList))], .int .i64 0]) (by simp [results, Tryz.results44, go_sem, q0, q1, q2, bS]) rfl ?_
                exact TellUri.some HB.out HYES.out (by first | exact below_three HB5.out | exact HB5.out)
end Go.Proofs.YtkneafpmgbgalaaGreatDoor
