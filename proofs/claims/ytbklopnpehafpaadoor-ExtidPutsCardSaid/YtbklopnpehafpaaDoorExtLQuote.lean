/- The contract of lit.Quoted. Conditions: bytes that Go can hold. -/
import Derived.Test.YtbklopnpehafpaaDoorExtQ
import Derived.Test.YtbklopnpehafpaaDoorShelf
namespace Go.Proofs.YtbklopnpehafpaaDoor
open Go.RowKit Go.Proofs.YtbklopnpehafpaaDoor.UtfPlain Go.Proofs.YtbklopnpehafpaaDoor.NamePlain
set_option linter.unusedVariables false
set_option linter.unusedSimpArgs false
/-- The first place of a byte, in the library's words. -/
theorem index_next (xs : List Int) (c : Int) (hb : ∀ x ∈ xs, 0 ≤ x ∧ x ≤ 255) (hc : 0 ≤ c ∧ c ≤ 255) : ∀ (m i : Nat), xs.length - i = m → i ≤ xs.length →
    (Lib.indexByte (Lib.bytesOf (xs.drop i)) c.toNat.toUInt8 = -1 ∧ nextN xs c i = none) ∨ (∃ k : Nat, Lib.indexByte (Lib.bytesOf (xs.drop i)) c.toNat.toUInt8 = k ∧ nextN xs c i = some (i + k) ∧ i + k < xs.length)
  | 0, i, hm, hi => by
    left
    have : xs.drop i = [] := List.drop_eq_nil_of_le (by omega)
    rw [this]
    exact ⟨rfl, nextN_end xs c i (by omega)⟩
  | m + 1, i, hm, hi => by
    have hlt : i < xs.length := by omega
    have hd : xs.drop i = xs[i] :: xs.drop (i + 1) := List.drop_eq_getElem_cons hlt
    have hx := hb xs[i] (List.getElem_mem hlt)
    have hg : xs.getD i 0 = xs[i] := by rw [List.getD_eq_getElem?_getD, List.getElem?_eq_getElem hlt]; rfl
    have ih := index_next xs c hb hc m (i + 1) (by omega) (by omega)
    have hcons : Lib.bytesOf (xs.drop i) = xs[i].toNat.toUInt8 :: Lib.bytesOf (xs.drop (i + 1)) := by rw [hd]; rfl
    rw [hcons]
    have heq : (xs[i].toNat.toUInt8 == c.toNat.toUInt8) = decide (xs[i] = c) := by
      rw [Bool.eq_iff_iff, beq_iff_eq, decide_eq_true_eq, ← UInt8.toNat_inj]
      simp
      omega
    simp only [Lib.indexByte, heq]
    by_cases h : xs[i] = c
    · right
      refine ⟨0, by rw [decide_eq_true h]; rfl, ?_, by omega⟩
      rw [nextN_yes xs c i hlt (by rw [hg]; exact h)]; rfl
    · rw [decide_eq_false h, nextN_no xs c i hlt (by rw [hg]; exact h)]
      rcases ih with ⟨h1, h2⟩ | ⟨k, h1, h2, h3⟩
      · left; rw [h1]; exact ⟨rfl, h2⟩
      · right
        refine ⟨k + 1, ?_, by rw [h2]; congr 1; omega, by omega⟩
        rw [h1]
        have : ((k : Int) == -1) = false := by rw [beq_eq_false_iff_ne]; omega
        rw [this]; simp
set_option maxRecDepth 100000 in
set_option maxHeartbeats 4000000 in
theorem lquoted_any (A : Option Addr) (n cp : Nat) (at_ : Int) (xs : List Int) (w : World) (hn : n ≤ 140737488355328) (hcp : n ≤ cp) (hcp2 : cp ≤ 9223372036854775807) (hb : BytesAt w A n xs) :
    Calls Tryd.prog 54 #[.slice A n cp, .int .i64 at_] w (TellRead (quoteN xs at_) w) := by
  have hl := hb.1
  by_cases h0 : at_ < 0
  · have HF := Lib.hid (quoteN_out xs at_ (.inl h0))
    clear hb
    go_enter Tryd.func54, Tryd.ntmps54
    go_wp2
    go_ret3
    rw [HF.out]
    exact ⟨rfl, Below.refl _ _⟩
  · by_cases h1 : (n : Int) < at_
    · have HF := Lib.hid (quoteN_out xs at_ (.inr (by omega)))
      clear hb hl
      go_enter Tryd.func54, Tryd.ntmps54
      go_wp2
      go_ret3
      rw [HF.out]
      exact ⟨rfl, Below.refl _ _⟩
    · obtain ⟨j, rfl⟩ : ∃ j : Nat, at_ = j := ⟨at_.toNat, by omega⟩
      by_cases h2 : j = n
      · subst h2
        have HF : Hid (quoteN xs (j : Int) = ([], 0, 7)) := by show _ = _; rw [← hl]; exact quoteN_end xs
        clear hb hl
        go_enter Tryd.func54, Tryd.ntmps54
        go_wp2
        go_ret3
        rw [HF.out]
        exact ⟨rfl, Below.refl _ _⟩
      · have hj : j < n := by omega
        obtain ⟨a, c, rfl, hx, hc0, hc1, hab, hcell⟩ := hb.2 j hj
        have hg : xs.getD j 0 = c := by rw [List.getD_eq_getElem?_getD, hx]; rfl
        have b0 : (0 : Int) ≤ (j : Int) := by omega
        have b1 : (j : Int) < (n : Int) := by omega
        have t1 : ((j : Int) == (n : Int)) = false := by rw [beq_eq_false_iff_ne]; omega
        have HB := Lib.hid hb
        by_cases hq : c = 34 ∨ c = 39
        · have HY := Lib.hid (quoteN_yes xs j (by omega) (by rw [hg]; exact hq))
          rw [hg] at HY
          obtain ⟨q, hqq⟩ : ∃ q, q = quoteN xs (j : Int) := ⟨_, rfl⟩
          rw [← hqq] at HY ⊢
          have T : ((c != 34) = false ∧ (c == 34) = true) ∨ ((c != 34) = true ∧ (c == 34) = false ∧ (c != 39) = false ∧ (c == 39) = true) := by
            rcases hq with rfl | rfl
            · left; exact ⟨rfl, rfl⟩
            · right; exact ⟨rfl, rfl, rfl, rfl⟩
          have hbd : ∀ x ∈ xs, 0 ≤ x ∧ x ≤ 255 := fun x hx => by
            obtain ⟨i, hi, rfl⟩ := List.getElem_of_mem hx
            obtain ⟨_, y, _, hy, h0, h1, _, _⟩ := hb.2 i (by omega)
            rw [List.getElem?_eq_getElem hi] at hy
            cases hy
            exact ⟨h0, h1⟩
          have HIN := Lib.hid (index_next xs c hbd ⟨hc0, hc1⟩ _ (j + 1) rfl (by omega))
          obtain ⟨r, hr⟩ : ∃ r, r = Lib.indexByte (Lib.bytesOf (xs.drop (j + 1))) c.toNat.toUInt8 := ⟨_, rfl⟩
          rw [← hr] at HIN
          have HR := Lib.hid hr
          have w1 : IntKind.i64.wrap ((j : Int) + 1) = (j : Int) + 1 := IntWalk.i64_in _ (by omega)
          have n1 : ((j : Int) + 1).toNat = j + 1 := by omega
          have p1 : (0 : Int) ≤ (j : Int) + 1 := by omega
          have p2 : (j : Int) + 1 ≤ (n : Int) := by omega
          have p3 : (n : Int) ≤ (cp : Int) := by omega
          have hdl : (xs.drop (j + 1)).length = n - (j + 1) := by rw [List.length_drop, hl]
          by_cases hcj : cp = j + 1
          · have hnj : n = j + 1 := by omega
            subst hnj
            subst hcj
            have CI := Lib.hid (fun d c' => Tryd.bytes_IndexByte_at a 0 c' [] c (w.drewN d) rfl (fun i hi => by omega))
            have HQ : Hid (q = ([], 0, 7)) := by
              show _ = _
              rw [HY.out, nextN_end xs c (j + 1) (by omega)]
            clear hb hl hx hg hq hbd hr hdl hqq HIN HR
            rcases T with ⟨u1, u2⟩ | ⟨u1, u2, u3, u4⟩
            all_goals
              go_enter Tryd.func54, Tryd.ntmps54
              go_wp2
              go_quiet ((go_at_call 70; exact Calls.quiet_of_same (CI.out _ _)))
              rw [show Lib.indexByte (Lib.bytesOf []) c.toNat.toUInt8 = -1 from rfl]
              go_wp2
              go_ret3
              rw [HQ.out]
              exact ⟨rfl, below_drewN (Below.refl _ _) _⟩
          · have ha : a.add (j + 1) = ⟨a.block, a.off + (j + 1), none⟩ := by unfold Addr.add; rw [if_neg (by omega)]
            have hcells : ∀ d i, i < n - (j + 1) → (w.drewN d).cell? ((⟨a.block, a.off + (j + 1), none⟩ : Addr).add i) = some (.int .u8 ((xs.drop (j + 1)).getD i 0)) := fun d i hi => by
              obtain ⟨a', y, ha', hy, _, _, _, hcy⟩ := hb.2 (j + 1 + i) (by omega)
              cases ha'
              rw [← ha, addAdd, List.getD_eq_getElem?_getD, List.getElem?_drop, hy]
              exact hcy
            have CI := Lib.hid (fun d c' => Tryd.bytes_IndexByte_at ⟨a.block, a.off + (j + 1), none⟩ (n - (j + 1)) c' (xs.drop (j + 1)) c (w.drewN d) hdl (hcells d))
            have HC2 := Lib.hid hcj
            clear hb hl hx hg hq hbd hr hdl hcells hqq ha
            rcases T with ⟨u1, u2⟩ | ⟨u1, u2, u3, u4⟩
            all_goals
              go_enter Tryd.func54, Tryd.ntmps54
              go_wp2
              go_quiet ((go_at_call 70; exact Calls.quiet_of_same (CI.out _ _)))
              rw [← HR.out]
              rcases HIN.out with ⟨hr1, hnx⟩ | ⟨k, hr1, hnx, hk⟩
              · have HQ : Hid (q = ([], 0, 7)) := by show _ = _; rw [HY.out, hnx]
                clear hnx
                subst hr1
                go_wp2
                go_ret3
                rw [HQ.out]
                exact ⟨rfl, below_drewN (Below.refl _ _) _⟩
              · have HQ : Hid (q = (cut xs (j + 1) (j + 1 + k), (j : Int) + k + 2, 0)) := by
                  show _ = _
                  rw [HY.out, hnx]
                  simp only [Prod.mk.injEq, and_true, true_and]
                  omega
                have hkn : j + 1 + k < n := by rw [← HB.out.1]; exact hk
                have hsub := HB.out.sub (i := j + 1) (j := j + 1 + k) (by omega) (by omega)
                have ha : a.add (j + 1) = ⟨a.block, a.off + (j + 1), none⟩ := by unfold Addr.add; rw [if_neg (by omega)]
                rw [show j + 1 + k - (j + 1) = k by omega, ha] at hsub
                have q1 := fun c' => convB (w.drewN nq) (some ⟨a.block, a.off + (j + 1), none⟩) k c' (cut xs (j + 1) (j + 1 + k)) (hsub.drewN nq)
                have c1 : (j : Int) + 1 ≤ (j : Int) + 1 + k := by omega
                have c2 : (j : Int) + 1 + k ≤ (cp : Int) := by omega
                have c3 : ¬ cp = j + 1 := HC2.out
                have c4 : (0 : Int) ≤ (k : Int) := by omega
                have n2 : ((j : Int) + 1 + k).toNat = j + 1 + k := by omega
                have n3 : j + 1 + k - (j + 1) = k := by omega
                clear hnx hk hsub ha
                subst hr1
                go_wp2
                go_ret3
                rw [HQ.out]
                exact ⟨rfl, below_drewN (Below.refl _ _) _⟩
        · have HF : Hid (quoteN xs (j : Int) = ([], 0, 7)) := quoteN_bad xs j (by omega) (by rw [hg]; omega) (by rw [hg]; omega)
          have u1 : (c != 34) = true := by simp; omega
          have u2 : (c != 39) = true := by simp; omega
          clear hb hl hx hg hq HB
          go_enter Tryd.func54, Tryd.ntmps54
          go_wp2
          go_ret3
          rw [HF.out]
          exact ⟨rfl, Below.refl _ _⟩
end Go.Proofs.YtbklopnpehafpaaDoor
