/- The contract of narthexref21.Parse. Conditions: at most 2^20 bytes. -/
import Derived.Test.YtkneafpmgbgalaaGreatDoorUriRPath
import Derived.Test.YtkneafpmgbgalaaGreatDoorUriParse
namespace Go.Proofs.YtkneafpmgbgalaaGreatDoor
open Go.RowKit Go.Proofs.YtkneafpmgbgalaaGreatDoor.CharsPlain Go.Proofs.YtkneafpmgbgalaaGreatDoor.UriPlain
set_option linter.unusedVariables false
set_option linter.unusedSimpArgs false
/-- The result's block of the reference: nothing in it yet. -/
def URBlk (b : Nat) (w : World) : Prop := w.heap[b]? = some (.cells #[.string ⟨#[]⟩, .string ⟨#[]⟩, .string ⟨#[]⟩] 80 (0, 0))
theorem URBlk.below {b : Nat} {w w' : World} (h : URBlk b w) (hb : Below w.heap.size w w') : URBlk b w' := by
  unfold URBlk at *
  rw [hb.block b (Array.getElem?_eq_some_iff.1 h).1]; exact h
theorem URBlk.cells {b : Nat} {w : World} (h : URBlk b w) : w.cell? ⟨b, 0, none⟩ = some (.string ⟨#[]⟩) ∧ w.cell? ⟨b, 1, none⟩ = some (.string ⟨#[]⟩) ∧ w.cell? ⟨b, 2, none⟩ = some (.string ⟨#[]⟩) ∧ w.frozen? ⟨b, 0, none⟩ = false ∧ w.frozen? ⟨b, 1, none⟩ = false ∧ w.frozen? ⟨b, 2, none⟩ = false := by
  unfold URBlk at h
  exact ⟨by rw [Lib.cell_of_heap h]; rfl, by rw [Lib.cell_of_heap h]; rfl, by rw [Lib.cell_of_heap h]; rfl, Lib.frozen_of_heap h 0, Lib.frozen_of_heap h 1, Lib.frozen_of_heap h 2⟩
/-- The host's bytes as far as place k. -/
def HostK (l : List UInt8) (i k : Nat) : Prop := (47 : UInt8) ∉ (l.drop (i + 3)).take (k - (i + 3)) ∧ ((l.drop (i + 3)).take (k - (i + 3))).all (amU hostS) = true
theorem host_take (s : ByteArray) (i k : Nat) (h : i + 3 ≤ k) (hk : k < s.size) : (s.data.toList.drop (i + 3)).take (k + 1 - (i + 3)) = (s.data.toList.drop (i + 3)).take (k - (i + 3)) ++ [s[k]] := by
  have e : k + 1 - (i + 3) = (k - (i + 3)) + 1 := by omega
  have hlt : k - (i + 3) < (s.data.toList.drop (i + 3)).length := by rw [List.length_drop, len3]; omega
  rw [e, List.take_add_one, List.getElem?_eq_getElem hlt, List.getElem_drop]
  have g : s.data.toList[k]'(by rw [len3]; exact hk) = s[k] := rfl
  have : i + 3 + (k - (i + 3)) = k := by omega
  simp only [this, g]; rfl
theorem HostK.step {s : ByteArray} {i k : Nat} (h : HostK s.data.toList i k) (hik : i + 3 ≤ k) (hk : k < s.size) (hc : s[k] ≠ 47) (ha : amU hostS s[k] = true) : HostK s.data.toList i (k + 1) := by
  unfold HostK at *
  rw [host_take s i k hik hk]
  refine ⟨?_, ?_⟩
  · rw [List.mem_append]
    rintro (h1 | h1)
    · exact h.1 h1
    · simp at h1; exact hc h1.symm
  · rw [List.all_append, h.2]; simpa using ha
theorem host_split (R : List UInt8) (n : Nat) (h : (47 : UInt8) ∉ R.take n) (hh : R.drop n = [] ∨ ∃ r, R.drop n = 47 :: r) : hostU R = R.take n ∧ pathU R = R.drop n := by
  have g : ∀ x ∈ R.take n, decide (x ≠ 47) = true := by
    intro x hx
    rw [decide_eq_true_eq]
    rintro rfl; exact h hx
  have e : R = R.take n ++ R.drop n := (List.take_append_drop n R).symm
  unfold hostU pathU
  rw [e, List.takeWhile_append_of_pos g, List.dropWhile_append_of_pos g, List.take_append_drop]
  rcases hh with hh | ⟨r, hh⟩
  · rw [hh]; simp
  · rw [hh]; simp
theorem HostK.done {s : ByteArray} {i k : Nat} (h : HostK s.data.toList i k) (hik : i + 3 ≤ k) (hk : k ≤ s.size) (he : k = s.size ∨ ∃ hk2 : k < s.size, s[k] = 47) :
    hostU (s.data.toList.drop (i + 3)) = (s.data.toList.drop (i + 3)).take (k - (i + 3)) ∧ pathU (s.data.toList.drop (i + 3)) = s.data.toList.drop k := by
  have e : (s.data.toList.drop (i + 3)).drop (k - (i + 3)) = s.data.toList.drop k := by rw [List.drop_drop]; congr 1; omega
  have := host_split (s.data.toList.drop (i + 3)) (k - (i + 3)) h.1 (by
    rw [e]
    rcases he with he | ⟨hk2, he⟩
    · left; exact List.drop_eq_nil_of_le (by rw [len3, he]; exact Nat.le_refl _)
    · right; rw [drop_at s k hk2, he]; exact ⟨_, rfl⟩)
  rw [e] at this; exact this
theorem HostK.bad {s : ByteArray} {i k : Nat} (h : HostK s.data.toList i k) (hik : i + 3 ≤ k) (hk : k < s.size) (hc : s[k] ≠ 47) (ha : amU hostS s[k] = false) : allU hostS (hostU (s.data.toList.drop (i + 3))) = false := by
  have e : s.data.toList.drop (i + 3) = (s.data.toList.drop (i + 3)).take (k - (i + 3)) ++ s[k] :: s.data.toList.drop (k + 1) := by
    have h1 : (s.data.toList.drop (i + 3)).drop (k - (i + 3)) = s.data.toList.drop k := by rw [List.drop_drop]; congr 1; omega
    rw [← drop_at s k hk, ← h1, List.take_append_drop]
  have g : ∀ x ∈ (s.data.toList.drop (i + 3)).take (k - (i + 3)), decide (x ≠ 47) = true := by
    intro x hx
    rw [decide_eq_true_eq]
    rintro rfl; exact h.1 hx
  have hm : s[k] ∈ hostU (s.data.toList.drop (i + 3)) := by
    unfold hostU
    rw [e, List.takeWhile_append_of_pos g, List.mem_append]
    right
    rw [List.takeWhile_cons, if_pos (by simpa using hc)]
    exact List.mem_cons_self
  unfold allU
  rw [Bool.and_eq_false_iff]
  left
  rw [Bool.eq_false_iff]
  intro hall
  have := List.all_eq_true.1 hall _ hm
  rw [ha] at this; cases this
theorem all_bad (some l : List UInt8) (c : UInt8) (h : c ∈ l) (ha : amU some c = false) : allU some l = false := by
  unfold allU
  rw [Bool.and_eq_false_iff]
  left
  rw [Bool.eq_false_iff]
  intro hall
  have := List.all_eq_true.1 hall _ h
  rw [ha] at this; cases this
theorem all_good (some l : List UInt8) (h0 : 0 < l.length) (h : l.all (amU some) = true) : allU some l = true := by
  unfold allU
  rw [h]
  cases l with
  | nil => simp at h0
  | cons => rfl
theorem allU_nil (some : List UInt8) : allU some [] = false := rfl
/-- What the reference tells of a text that holds no mark, or holds it at the head. -/
theorem ref_nomark {l : List UInt8} (h : Lib.index l sep3 < 1) : parseU l = none := by
  apply parse_no
  unfold okU Lib.cut
  rcases Lib.index_spec l sep3 with ⟨h1, _⟩ | ⟨i, h1, _⟩
  · rw [h1]; rfl
  · have : i = 0 := by omega
    rw [h1, this]
    simp [allU_nil]
theorem cut_mark {l : List UInt8} {i : Nat} (h : Lib.index l sep3 = i) : Lib.cut l sep3 = (l.take i, l.drop (i + 3), true) := by
  unfold Lib.cut
  rw [h, if_pos (by omega), Int.toNat_natCast]
  rfl
set_option maxRecDepth 100000 in
set_option maxHeartbeats 4000000 in
theorem rparse_any (s : ByteArray) (w : World) (hs : s.size ≤ 1048576) : Calls Tryz.prog 41 #[.string s] w (TellUri s.data.toList w) := by
  have B0 := Lib.hid ((Below.refl w.heap.size w).alloc (Nat.le_refl _) (.cells #[.string ⟨#[]⟩, .string ⟨#[]⟩, .string ⟨#[]⟩] 80))
  by_cases hb : 4096 < s.size
  · have b1 : (4096 : Int) < (s.size : Int) := by omega
    have HB := Lib.hid hb
    clear hb
    go_enter Tryz.func41, Tryz.ntmps41
    go_wp2
    refine bodyPost_ret (v := .tuple #[.agg #[.string ⟨#[]⟩, .string ⟨#[]⟩, .string ⟨#[]⟩], .int .i64 13]) (by simp [results, Tryz.results41, go_sem]) rfl ?_
    exact TellUri.big (by rw [len3]; exact HB.out) B0.out
  · have b1 : ¬ (4096 : Int) < (s.size : Int) := by omega
    have HB : Hid (¬ 4096 < s.data.toList.length) := by show ¬ _; rw [len3]; exact hb
    obtain ⟨W, hW⟩ : ∃ W, W = w.alloc (.cells #[.string ⟨#[]⟩, .string ⟨#[]⟩, .string ⟨#[]⟩] 80) := ⟨_, rfl⟩
    have hcv := Lib.run_convert_string_bytes (P := Tryz.prog) W 9 34 5 s Tryz.underlying9 Tryz.underlying34 Tryz.underlying5
    have hC := bytesWorld_belowU W s
    have hg1 := grownCap_ge W s.size 0 5
    have hg2 := grownCap_le_maxLen W s.size 0 5 (by unfold maxLen; omega)
    have FN := find_raw ⟨W.heap.size, 0, none⟩ s.size (grownCap W s.size 0 5) s.data.toList ⟨#[58, 47, 47]⟩ _ (Lib.hid (len3 s)) (by omega) hg1 (by unfold maxLen at hg2; omega) (bytesWorld_raw W s) (by decide) (by decide)
    obtain ⟨at0, hat⟩ : ∃ a, a = Lib.index s.data.toList sep3 := ⟨_, rfl⟩
    rw [show Lib.index s.data.toList (ByteArray.mk #[58, 47, 47]).data.toList = at0 from hat.symm] at FN
    have FN := Lib.hid FN
    have hUB : URBlk w.heap.size W := by
      show W.heap[w.heap.size]? = _
      rw [hW, World.alloc]; simp
    have hBW : Below w.heap.size w W := by rw [hW]; exact (Below.refl _ _).alloc (Nat.le_refl _) _
    have HUB1 := Lib.hid (hUB.below hC)
    have HB1 := Lib.hid (hBW.trans (hC.mono hBW.size))
    have HAT := Lib.hid hat
    have HWW := Lib.hid hW
    obtain ⟨V, hV⟩ : ∃ V, V = Lib.bytesWorld W 5 s := ⟨_, rfl⟩
    rw [← hV] at FN HUB1 HB1 hcv
    obtain ⟨cp, hcp⟩ : ∃ cp, cp = grownCap W s.size 0 5 := ⟨_, rfl⟩
    have hWs : W.heap.size = w.heap.size + 1 := by rw [hW]; simp
    rw [← hcp, hWs] at hcv FN
    rw [hW] at hcv
    clear hb hC hg1 hg2 hat hUB hBW hWs hcp hV HWW hW B0
    go_enter Tryz.func41, Tryz.ntmps41
    go_wp2_with fail
    refine FN.out.mono ?_
    rintro e w' ⟨rfl, hw'⟩
    subst hw'
    clear hcv FN
    by_cases h1 : at0 < 1
    · have HNO : Hid (parseU s.data.toList = none) := ref_nomark (by rw [← HAT.out]; exact h1)
      obtain ⟨q0, q1, q2, f0, f1, f2⟩ := HUB1.out.cells
      clear HAT
      go_wp2
      refine bodyPost_ret (v := .tuple #[.agg #[.string ⟨#[]⟩, .string ⟨#[]⟩, .string ⟨#[]⟩], .int .i64 7]) (by simp [results, Tryz.results41, go_sem, q0, q1, q2]) rfl ?_
      exact TellUri.none HB.out HNO.out (by first | exact below_three HB1.out | exact HB1.out)
    · obtain ⟨i, hi, hil, hio⟩ : ∃ i : Nat, at0 = i ∧ 1 ≤ i ∧ i + 3 ≤ s.size := by
        have h2 := HAT.out
        have h3 := Lib.index_room s.data.toList sep3 (by rw [← h2]; omega)
        rw [← h2, len3, show sep3.length = 3 from rfl] at h3
        exact ⟨at0.toNat, by omega, by omega, by omega⟩
      subst hi
      have HCUT : Hid (Lib.cut s.data.toList sep3 = (s.data.toList.take i, s.data.toList.drop (i + 3), true)) := cut_mark HAT.out.symm
      have hz0 : 0 < s.size := by omega
      have hz1 : (0 : Int) < (s.size : Int) := by omega
      have t0 : ¬ (i : Int) < 1 := h1
      have HLH : Hid (letH (s.data.toList.take i) = letN (s[0].toNat : Int)) := by
        show _ = _
        have g := drop_at s 0 hz0
        rw [List.drop_zero] at g
        obtain ⟨j, rfl⟩ : ∃ j, i = j + 1 := ⟨i - 1, by omega⟩
        rw [g, List.take_succ_cons]; rfl
      clear h1 HAT
      cases h3 : letN (s[0].toNat : Int) with
      | false =>
        have H3 := Lib.hid h3
        have HNO : Hid (parseU s.data.toList = none) := parse_no (by rw [okU_of HCUT.out]; rw [HLH.out, h3]; simp)
        obtain ⟨q0, q1, q2, f0, f1, f2⟩ := HUB1.out.cells
        clear h3
        go_wp2_with fail
        go_at_call 50
        refine (urletter_any _ _).mono ?_
        rintro e w3 ⟨rfl, hw3⟩
        subst hw3
        rw [H3.out]
        go_wp2
        refine bodyPost_ret (v := .tuple #[.agg #[.string ⟨#[]⟩, .string ⟨#[]⟩, .string ⟨#[]⟩], .int .i64 7]) (by simp [results, Tryz.results41, go_sem, q0, q1, q2]) rfl ?_
        exact TellUri.none HB.out HNO.out (by first | exact below_three HB1.out | exact HB1.out)
      | true =>
        have H3 := Lib.hid h3
        clear h3
        go_wp2_with fail
        go_at_call 50
        refine (urletter_any _ _).mono ?_
        rintro e w3 ⟨rfl, hw3⟩
        subst hw3
        rw [H3.out]
        go_wp2
        go_loopw [5] (fun v5 wr => ∃ k : Nat, k ≤ i ∧ v5 = .int .i64 k ∧ Hid ((s.data.toList.take k).all (amU schS) = true) ∧ wr = V) (fun v5 _ => i - (intOf v5).toNat)
        case atStart => exact ⟨0, Nat.zero_le _, rfl, rfl, rfl⟩
        case round =>
          obtain ⟨k, hk, rfl, HK, rfl⟩ := hrel
          by_cases hlt : k < i
          · have hks : k < s.size := by omega
            have g0 : (0 : Int) ≤ (k : Int) := by omega
            have g1 : (k : Int) < (s.size : Int) := by omega
            have hc0 : (0 : Int) ≤ (s[k].toNat : Int) := by omega
            have hc1 : (s[k].toNat : Int) ≤ 255 := by have := s[k].toNat_lt; omega
            cases hA : amI schS (s[k].toNat : Int) with
            | true =>
              have HA := Lib.hid hA
              have HK2 : Hid ((s.data.toList.take (k + 1)).all (amU schS) = true) := by
                show _ = _
                rw [take_snocU s k hks, List.all_append, HK.out]
                have : amU schS s[k] = true := hA
                simpa using this
              clear hA HK
              go_wp2_with fail
              go_at_call 51
              refine (uramong_any _ _ _ (by decide) hc0 hc1).mono ?_
              rintro e w3 ⟨rfl, hw3⟩
              subst hw3
              rw [show amI (ByteArray.mk #[43, 45, 46]).data.toList (s[k].toNat : Int) = true from HA.out]
              go_wp2
              go_roundw
              case rel => exact ⟨k + 1, by omega, by go_num, HK2.out, trivial⟩
              case measure => simp [intOf]; omega
            | false =>
              have HA := Lib.hid hA
              have HNO : Hid (parseU s.data.toList = none) := parse_no (by
                have : s[k] ∈ s.data.toList.take i := by
                  have h1 : s[k] ∈ s.data.toList.take (k + 1) := by rw [take_snocU s k hks]; simp
                  exact List.take_subset_take_left _ hlt h1
                rw [okU_of HCUT.out, all_bad schS _ s[k] this hA]; simp)
              obtain ⟨q0, q1, q2, f0, f1, f2⟩ := HUB1.out.cells
              clear hA HK
              go_wp2_with fail
              go_at_call 51
              refine (uramong_any _ _ _ (by decide) hc0 hc1).mono ?_
              rintro e w3 ⟨rfl, hw3⟩
              subst hw3
              rw [show amI (ByteArray.mk #[43, 45, 46]).data.toList (s[k].toNat : Int) = false from HA.out]
              go_wp2
              refine bodyPost_ret (v := .tuple #[.agg #[.string ⟨#[]⟩, .string ⟨#[]⟩, .string ⟨#[]⟩], .int .i64 7]) (by simp [results, Tryz.results41, go_sem, q0, q1, q2]) rfl ?_
              exact TellUri.none HB.out HNO.out (by first | exact below_three HB1.out | exact HB1.out)
          · obtain rfl : k = i := by omega
            have HSC : Hid (allU schS (s.data.toList.take k) = true) := all_good _ _ (by rw [List.length_take, len3]; omega) HK.out
            have w3 : IntKind.i64.wrap ((k : Int) + 3) = (k : Int) + 3 := IntWalk.i64_in _ (by omega)
            clear HK hlt hk
            go_wp2
            go_loopw [6] (fun v6 wx => ∃ j : Nat, k + 3 ≤ j ∧ j ≤ s.size ∧ v6 = .int .i64 j ∧ Hid (HostK s.data.toList k j) ∧ wx = wr) (fun v6 _ => s.size - (intOf v6).toNat)
            case atStart => exact ⟨k + 3, Nat.le_refl _, by omega, by go_num, ⟨by simp, by simp⟩, rfl⟩
            case round =>
              obtain ⟨j, hj1, hj2, rfl, HH, rfl⟩ := hrel
              have e0 : (0 : Int) ≤ (j : Int) := by omega
              have e1 : (j : Int) ≤ (s.size : Int) := by omega
              by_cases hlt : j < s.size
              · have g1 : (j : Int) < (s.size : Int) := by omega
                have hc0 : (0 : Int) ≤ (s[j].toNat : Int) := by omega
                have hc1 : (s[j].toNat : Int) ≤ 255 := by have := s[j].toNat_lt; omega
                by_cases hx : ((s[j].toNat : Int) = 47)
                · have t2 : ((s[j].toNat : Int) != 47) = false := by simpa using hx
                  have HDONE := Lib.hid (HH.out.done hj1 hj2 (.inr ⟨hlt, (u8_eq s[j] 47 (by decide) (by decide)).1 hx⟩))
                  clear hx
                  have HPD : Hid ((s.extract j s.size).data.toList = pathU (s.data.toList.drop (k + 3))) := by show _ = _; rw [HDONE.out.2, drop_extract]
                  have hps : (s.extract j s.size).size ≤ 1048576 := by rw [ByteArray.size_extract, Nat.min_self]; omega
                  go_wp2_with fail
                  refine (rpath_any (s.extract j s.size) _ hps).mono ?_
                  rintro e w2 ⟨t, b, rfl, hbq, ht, hb2⟩
                  rw [HPD.out] at hbq ht
                  have HB2 := Lib.hid (HB1.out.trans (hb2.mono HB1.out.size))
                  have HUB2 := Lib.hid (HUB1.out.below hb2)
                  have HBQ := Lib.hid hbq
                  have HT := Lib.hid ht
                  clear hbq ht hb2 hps
                  by_cases hjk : j = k + 3
                  · have t1 : ((j : Int) == (k : Int) + 3) = true := by rw [beq_iff_eq]; omega
                    have HNO : Hid (parseU s.data.toList = none) := parse_no (by
                      have : hostU (s.data.toList.drop (k + 3)) = [] := by rw [HDONE.out.1, hjk]; simp
                      rw [okU_of HCUT.out, this, allU_nil]; simp)
                    obtain ⟨q0, q1, q2, f0, f1, f2⟩ := HUB2.out.cells
                    clear hjk HDONE
                    go_wp2
                    refine bodyPost_ret (v := .tuple #[.agg #[.string ⟨#[]⟩, .string ⟨#[]⟩, .string ⟨#[]⟩], .int .i64 7]) (by simp [results, Tryz.results41, go_sem, q0, q1, q2]) rfl ?_
                    exact TellUri.none HB.out HNO.out (by first | exact below_three HB2.out | exact HB2.out)
                  · have t1 : ((j : Int) == (k : Int) + 3) = false := by rw [beq_eq_false_iff_ne]; omega
                    cases b with
                    | false =>
                      have HNO : Hid (parseU s.data.toList = none) := parse_no2 (by rw [HCUT.out]; have := HBQ.out; cases hd : decP (pathU (s.data.toList.drop (k + 3))) with | none => rfl | some p => rw [hd] at this; cases this)
                      obtain ⟨q0, q1, q2, f0, f1, f2⟩ := HUB2.out.cells
                      clear hjk HDONE
                      go_wp2
                      refine bodyPost_ret (v := .tuple #[.agg #[.string ⟨#[]⟩, .string ⟨#[]⟩, .string ⟨#[]⟩], .int .i64 7]) (by simp [results, Tryz.results41, go_sem, q0, q1, q2]) rfl ?_
                      exact TellUri.none HB.out HNO.out (by first | exact below_three HB2.out | exact HB2.out)
                    | true =>
                      obtain ⟨p, hp⟩ : ∃ p, decP (pathU (s.data.toList.drop (k + 3))) = some p := by
                        have := HBQ.out
                        cases hd : decP (pathU (s.data.toList.drop (k + 3))) with
                        | none => rw [hd] at this; cases this
                        | some p => exact ⟨p, rfl⟩
                      have htp : t = bS p := HT.out p hp
                      have htl : t.size ≤ 1048576 := by
                        rw [htp, bS_size]
                        have h1 := decP_length _ _ hp
                        have h2 := congrArg List.length (host_path (s.data.toList.drop (k + 3)))
                        rw [List.length_append, List.length_drop, len3] at h2
                        omega
                      have HPP := Lib.hid hp
                      have HTP := Lib.hid htp
                      have HE1 : Hid ((s.extract 0 k).data.toList = s.data.toList.take k) := extract_host s k
                      have HE2 : Hid ((s.extract (k + 3) j).data.toList = hostU (s.data.toList.drop (k + 3))) := by
                        show _ = _
                        rw [HDONE.out.1]
                        exact congrArg (fun x => x.data.toList) (extract_part s.data.toList (k + 3) j)
                      have H4 : Hid (allU hostS (hostU (s.data.toList.drop (k + 3))) = true) := by
                        show _ = _
                        rw [HDONE.out.1]
                        exact all_good _ _ (by rw [List.length_take, List.length_drop, len3]; omega) HH.out.2
                      have HYES : Hid (parseU s.data.toList = some (Lib.toLowerA (s.extract 0 k).data.toList, Lib.toLowerA (s.extract (k + 3) j).data.toList, dotsL t.data.toList)) := by
                        show _ = _
                        rw [HTP.out, HE1.out, HE2.out]
                        exact parse_yes HCUT.out HSC.out (by rw [HLH.out, H3.out]) H4.out HPP.out
                      have hl1 : (s.extract 0 k).size ≤ 1048576 := by rw [ByteArray.size_extract]; omega
                      have hl2 : (s.extract (k + 3) j).size ≤ 1048576 := by rw [ByteArray.size_extract]; omega
                      have n3 : ((k : Int) + 3).toNat = k + 3 := by omega
                      have p3 : (0 : Int) ≤ (k : Int) + 3 := by omega
                      have p4 : (k : Int) + 3 ≤ (j : Int) := by omega
                      have p5 : (j : Int) ≤ (s.size : Int) := by omega
                      have p6 : (k : Int) ≤ (s.size : Int) := by omega
                      clear hp htp HT HBQ hjk HDONE HE1 HE2 H4 HPD HTP HPP HH
                      go_wp2_with fail
                      go_region_held3 (fun _ => True) (trivial)
                        (first
                        | (go_at_call 53
                           (with_reducible refine (rlow_any (s.extract 0 k) _ hl1).mono ?_)
                           rintro e w3 ⟨rfl, hb3⟩
                           have hb3 : Below w2.heap.size w2 w3 := (Below.refl w2.heap.size w2).drew.trans hb3
                           have HB3 := Lib.hid (HB2.out.trans (hb3.mono HB2.out.size))
                           have HUB3 := Lib.hid (HUB2.out.below hb3)
                           clear hb3)
                        | (go_at_call 53
                           (with_reducible refine (rlow_any (s.extract (k + 3) j) w3 hl2).mono ?_)
                           rintro e w4 ⟨rfl, hb4⟩
                           have HB4 := Lib.hid (HB3.out.trans (hb4.mono HB3.out.size))
                           have HUB4 := Lib.hid (HUB3.out.below hb4)
                           clear hb4)
                        | (go_at_call 54
                           (with_reducible refine (rdots_any t w4 htl).mono ?_)
                           rintro e w5 ⟨rfl, hb5⟩
                           have HB5 := Lib.hid (HB4.out.trans (hb5.mono HB4.out.size))
                           obtain ⟨q0, q1, q2, f0, f1, f2⟩ := (HUB4.out.below hb5).cells
                           clear hb5))
                      go_wp2
                      refine bodyPost_ret (v := .tuple #[.agg #[.string (bS (Lib.toLowerA (s.extract 0 k).data.toList)), .string (bS (Lib.toLowerA (s.extract (k + 3) j).data.toList)), .string (bS (dotsL t.data.toList))], .int .i64 0]) (by simp [results, Tryz.results41, go_sem, q0, q1, q2, bS]) rfl ?_
                      exact TellUri.some HB.out HYES.out (by first | exact below_three HB5.out | exact HB5.out)
                · have t2 : ((s[j].toNat : Int) != 47) = true := by simpa using hx
                  have HNE := Lib.hid (fun h : s[j] = 47 => hx ((u8_eq s[j] 47 (by decide) (by decide)).2 h))
                  clear hx
                  cases hA : amI hostS (s[j].toNat : Int) with
                  | true =>
                    have HA := Lib.hid hA
                    have HH2 := Lib.hid (HH.out.step hj1 hlt HNE.out hA)
                    clear hA HH
                    go_wp2_with fail
                    go_at_call 51
                    refine (uramong_any _ _ _ (by decide) hc0 hc1).mono ?_
                    rintro e w3 ⟨rfl, hw3⟩
                    subst hw3
                    rw [show amI (ByteArray.mk #[45, 46, 58]).data.toList (s[j].toNat : Int) = true from HA.out]
                    go_wp2
                    go_roundw
                    case rel => exact ⟨j + 1, by omega, by omega, by go_num, HH2.out, trivial⟩
                    case measure => simp [intOf]; omega
                  | false =>
                    have HA := Lib.hid hA
                    have HNO : Hid (parseU s.data.toList = none) := parse_no (by rw [okU_of HCUT.out, HH.out.bad hj1 hlt HNE.out hA]; simp)
                    obtain ⟨q0, q1, q2, f0, f1, f2⟩ := HUB1.out.cells
                    have HB2 := HB1
                    clear hA HH
                    go_wp2_with fail
                    go_at_call 51
                    refine (uramong_any _ _ _ (by decide) hc0 hc1).mono ?_
                    rintro e w3 ⟨rfl, hw3⟩
                    subst hw3
                    rw [show amI (ByteArray.mk #[45, 46, 58]).data.toList (s[j].toNat : Int) = false from HA.out]
                    go_wp2
                    refine bodyPost_ret (v := .tuple #[.agg #[.string ⟨#[]⟩, .string ⟨#[]⟩, .string ⟨#[]⟩], .int .i64 7]) (by simp [results, Tryz.results41, go_sem, q0, q1, q2]) rfl ?_
                    exact TellUri.none HB.out HNO.out (by first | exact below_three HB2.out | exact HB2.out)
              · have g1 : ¬ (j : Int) < (s.size : Int) := by omega
                have HDONE := Lib.hid (HH.out.done hj1 hj2 (.inl (by omega)))
                have HPD : Hid ((s.extract j s.size).data.toList = pathU (s.data.toList.drop (k + 3))) := by show _ = _; rw [HDONE.out.2, drop_extract]
                have hps : (s.extract j s.size).size ≤ 1048576 := by rw [ByteArray.size_extract, Nat.min_self]; omega
                go_wp2_with fail
                refine (rpath_any (s.extract j s.size) _ hps).mono ?_
                rintro e w2 ⟨t, b, rfl, hbq, ht, hb2⟩
                rw [HPD.out] at hbq ht
                have HB2 := Lib.hid (HB1.out.trans (hb2.mono HB1.out.size))
                have HUB2 := Lib.hid (HUB1.out.below hb2)
                have HBQ := Lib.hid hbq
                have HT := Lib.hid ht
                clear hbq ht hb2 hps
                by_cases hjk : j = k + 3
                · have t1 : ((j : Int) == (k : Int) + 3) = true := by rw [beq_iff_eq]; omega
                  have HNO : Hid (parseU s.data.toList = none) := parse_no (by
                    have : hostU (s.data.toList.drop (k + 3)) = [] := by rw [HDONE.out.1, hjk]; simp
                    rw [okU_of HCUT.out, this, allU_nil]; simp)
                  obtain ⟨q0, q1, q2, f0, f1, f2⟩ := HUB2.out.cells
                  clear hjk HDONE
                  go_wp2
                  refine bodyPost_ret (v := .tuple #[.agg #[.string ⟨#[]⟩, .string ⟨#[]⟩, .string ⟨#[]⟩], .int .i64 7]) (by simp [results, Tryz.results41, go_sem, q0, q1, q2]) rfl ?_
                  exact TellUri.none HB.out HNO.out (by first | exact below_three HB2.out | exact HB2.out)
                · have t1 : ((j : Int) == (k : Int) + 3) = false := by rw [beq_eq_false_iff_ne]; omega
                  cases b with
                  | false =>
                    have HNO : Hid (parseU s.data.toList = none) := parse_no2 (by rw [HCUT.out]; have := HBQ.out; cases hd : decP (pathU (s.data.toList.drop (k + 3))) with | none => rfl | some p => rw [hd] at this; cases this)
                    obtain ⟨q0, q1, q2, f0, f1, f2⟩ := HUB2.out.cells
                    clear hjk HDONE
                    go_wp2
                    refine bodyPost_ret (v := .tuple #[.agg #[.string ⟨#[]⟩, .string ⟨#[]⟩, .string ⟨#[]⟩], .int .i64 7]) (by simp [results, Tryz.results41, go_sem, q0, q1, q2]) rfl ?_
                    exact TellUri.none HB.out HNO.out (by first | exact below_three HB2.out | exact HB2.out)
                  | true =>
                    obtain ⟨p, hp⟩ : ∃ p, decP (pathU (s.data.toList.drop (k + 3))) = some p := by
                      have := HBQ.out
                      cases hd : decP (pathU (s.data.toList.drop (k + 3))) with
                      | none => rw [hd] at this; cases this
                      | some p => exact ⟨p, rfl⟩
                    have htp : t = bS p := HT.out p hp
                    have htl : t.size ≤ 1048576 := by
                      rw [htp, bS_size]
                      have h1 := decP_length _ _ hp
                      have h2 := congrArg List.length (host_path (s.data.toList.drop (k + 3)))
                      rw [List.length_append, List.length_drop, len3] at h2
                      omega
                    have HPP := Lib.hid hp
                    have HTP := Lib.hid htp
                    have HE1 : Hid ((s.extract 0 k).data.toList = s.data.toList.take k) := extract_host s k
                    have HE2 : Hid ((s.extract (k + 3) j).data.toList = hostU (s.data.toList.drop (k + 3))) := by
                      show _ = _
                      rw [HDONE.out.1]
                      exact congrArg (fun x => x.data.toList) (extract_part s.data.toList (k + 3) j)
                    have H4 : Hid (allU hostS (hostU (s.data.toList.drop (k + 3))) = true) := by
                      show _ = _
                      rw [HDONE.out.1]
                      exact all_good _ _ (by rw [List.length_take, List.length_drop, len3]; omega) HH.out.2
                    have HYES : Hid (parseU s.data.toList = some (Lib.toLowerA (s.extract 0 k).data.toList, Lib.toLowerA (s.extract (k + 3) j).data.toList, dotsL t.data.toList)) := by
                      show _ = _
                      rw [HTP.out, HE1.out, HE2.out]
                      exact parse_yes HCUT.out HSC.out (by rw [HLH.out, H3.out]) H4.out HPP.out
                    have hl1 : (s.extract 0 k).size ≤ 1048576 := by rw [ByteArray.size_extract]; omega
                    have hl2 : (s.extract (k + 3) j).size ≤ 1048576 := by rw [ByteArray.size_extract]; omega
                    have n3 : ((k : Int) + 3).toNat = k + 3 := by omega
                    have p3 : (0 : Int) ≤ (k : Int) + 3 := by omega
                    have p4 : (k : Int) + 3 ≤ (j : Int) := by omega
                    have p5 : (j : Int) ≤ (s.size : Int) := by omega
                    have p6 : (k : Int) ≤ (s.size : Int) := by omega
                    clear hp htp HT HBQ hjk HDONE HE1 HE2 H4 HPD HTP HPP HH
                    go_wp2_with fail
                    go_region_held3 (fun _ => True) (trivial)
                      (first
                      | (go_at_call 53
                         (with_reducible refine (rlow_any (s.extract 0 k) _ hl1).mono ?_)
                         rintro e w3 ⟨rfl, hb3⟩
                         have hb3 : Below w2.heap.size w2 w3 := (Below.refl w2.heap.size w2).drew.trans hb3
                         have HB3 := Lib.hid (HB2.out.trans (hb3.mono HB2.out.size))
                         have HUB3 := Lib.hid (HUB2.out.below hb3)
                         clear hb3)
                      | (go_at_call 53
                         (with_reducible refine (rlow_any (s.extract (k + 3) j) w3 hl2).mono ?_)
                         rintro e w4 ⟨rfl, hb4⟩
                         have HB4 := Lib.hid (HB3.out.trans (hb4.mono HB3.out.size))
                         have HUB4 := Lib.hid (HUB3.out.below hb4)
                         clear hb4)
                      | (go_at_call 54
                         (with_reducible refine (rdots_any t w4 htl).mono ?_)
                         rintro e w5 ⟨rfl, hb5⟩
                         have HB5 := Lib.hid (HB4.out.trans (hb5.mono HB4.out.size))
                         obtain ⟨q0, q1, q2, f0, f1, f2⟩ := (HUB4.out.below hb5).cells
                         clear hb5))
                    go_wp2
                    refine bodyPost_ret (v := .tuple #[.agg #[.string (bS (Lib.toLowerA (s.extract 0 k).data.toList)), .string (bS (Lib.toLowerA (s.extract (k + 3) j).data.toList)), .string (bS (dotsL t.data.toList))], .int .i64 0]) (by simp [results, Tryz.results41, go_sem, q0, q1, q2, bS]) rfl ?_
                    exact TellUri.some HB.out HYES.out (by first | exact below_three HB5.out | exact HB5.out)
end Go.Proofs.YtkneafpmgbgalaaGreatDoor
