/- The walk of narthexlaw21.UriDots. Conditions: internal/bytealg.MaxLen holds an int. -/
import Derived.Test.YtkijolghaolbhaaDoorUriSteps
import Derived.Test.YtkijolghaolbhaaDoorUriRDots
namespace Go.Proofs.YtkijolghaolbhaaDoor
open Go.RowKit Go.Proofs.YtkijolghaolbhaaDoor.CharsPlain Go.Proofs.YtkijolghaolbhaaDoor.UriPlain
set_option linter.unusedVariables false
set_option linter.unusedSimpArgs false
theorem rdots_is (s t : ByteArray) (w : World) (hs : s.size ≤ 1048576) (h1 : bS (dotsL s.data.toList) = t) : Calls Tryd.prog 14 #[.string s] w (TellS t w) := by
  rw [← h1]; exact rdots_any s w hs
set_option maxRecDepth 100000 in
set_option maxHeartbeats 4000000 in
theorem uriDots_any (s : ByteArray) (w : World) (m : Int) (hm : w.cell? ⟨0, 0, none⟩ = some (.int .i64 m)) : Calls Tryd.prog 4 #[.string s] w (BelB true w) := by
  by_cases hp : 400 < s.size
  · have CL := Lib.hid (live21_any w m hm)
    clear hm
    have b1 : (400 : Int) < (s.size : Int) := by omega
    go_enter Tryd.func4, Tryd.ntmps4
    go_wp2_with fail
    refine CL.out.mono ?_
    rintro e w' ⟨rfl, hb⟩
    go_wp2
    go_ret
    exact ⟨rfl, hb⟩
  · have HM := Lib.hid hm
    clear hm
    have b1 : ¬ (400 : Int) < (s.size : Int) := by omega
    obtain ⟨D, hD⟩ : ∃ D, bS (dotsL s.data.toList) = D := ⟨_, rfl⟩
    have hds := dots_size s.data.toList
    rw [len3] at hds
    have hDs : D.size ≤ 1048576 := by rw [← hD, bS_size]; omega
    have hDd : D.data.toList = dotsL s.data.toList := by rw [← hD]; rfl
    obtain ⟨ps, hps⟩ : ∃ ps, ps = splitS (trimS D.data.toList) := ⟨_, rfl⟩
    have HDN : Hid (∀ p ∈ ps, dotty p = false) := by
      show ∀ p ∈ ps, dotty p = false
      rw [hps, hDd]; exact dots_none _
    have HPL : Hid (ps.length ≤ 1048577) := by
      have h1 := splitS_size (trimS D.data.toList)
      rw [← hps] at h1
      have h2 : (trimS D.data.toList).length ≤ D.size := by
        rw [← len3 D]
        generalize D.data.toList = l
        cases l with
        | nil => simp [trimS]
        | cons c r => simp only [trimS]; split <;> simp
      have h3 : ∀ l : List (List UInt8), l.length ≤ (l.map (·.length + 1)).sum := fun l => by
        induction l with
        | nil => simp
        | cons a l ih => simp; omega
      have := h3 ps
      show _ ≤ _
      omega
    obtain ⟨q, hq⟩ := dots_head s.data.toList
    have hD1 : 0 < D.size := by rw [← hD, bS_size, hq]; simp
    have hD0 : D[0] = 47 := by
      subst hD
      have : ∀ l : List UInt8, l = 47 :: q → ∀ h : 0 < l.length, l[0]'h = 47 := by rintro l rfl h; rfl
      exact this _ hq (by rw [hq]; simp)
    have h47 : ((D[0].toNat : Int) == 47) = true := by rw [hD0]; rfl
    have b2 : (0 : Int) < (D.size : Int) := by omega
    have C1 := Lib.hid (dots_is s D w m (by omega) HM.out hD)
    have C2 := Lib.hid (fun w' => rparts_any D w' hDs)
    rw [← hps] at C2
    have C3 := Lib.hid (fun w' => rdots_is s D w' (by omega) hD)
    clear hD hds hDs hDd hps hq hD0
    go_enter Tryd.func4, Tryd.ntmps4
    go_wp2_with fail
    refine C1.out.mono ?_
    rintro e w1 ⟨rfl, hb1⟩
    have HB1 := Lib.hid hb1
    have HM1 := Lib.hid (maxlen_below HM.out hb1)
    clear hb1
    go_wp2_with fail
    refine (C2.out _).mono ?_
    rintro e w2 ⟨A0, c0, rfl, hR0, hb2⟩
    have HB2 := Lib.hid (HB1.out.trans (hb2.mono HB1.out.size))
    have HM2 := Lib.hid (maxlen_below HM1.out hb2)
    obtain ⟨n, hn⟩ : ∃ n, n = ps.length := ⟨_, rfl⟩
    rw [← hn] at hR0 ⊢
    have HR := Lib.hid hR0
    have HN := Lib.hid hn
    clear hR0 hn hb2
    have hnn : (n : Int) ≤ 1048577 := by have := HPL.out; have := HN.out; omega
    go_wp2
    go_loopw [5] (fun v5 wr => ∃ k : Nat, k ≤ n ∧ v5 = .int .i64 k ∧ wr = w2) (fun v5 _ => n - (intOf v5).toNat)
    case atStart => exact ⟨0, Nat.zero_le _, rfl, rfl⟩
    case round =>
      obtain ⟨k, hk, rfl, rfl⟩ := hrel
      by_cases hlt : k < n
      · obtain ⟨p, hp⟩ : ∃ p, ps[k]? = some p := ⟨_, List.getElem?_eq_getElem (by rw [← HN.out]; exact hlt)⟩
        have hR := HR.out
        obtain ⟨g, c', he⟩ := Joins.ownsRow_form hR (by omega)
        cases he
        have c1 := (strs_cell hR).2.2.2.2.2.2 k p hp
        have hdp := HDN.out p (List.mem_of_getElem? hp)
        obtain ⟨x, hx⟩ : ∃ x, x = bS p := ⟨_, rfl⟩
        have hxd : x.data.toList = p := by rw [hx]; rfl
        rw [show sv p = .string x from congrArg Value.string hx.symm] at c1
        have hu : p ≠ [46, 46] := fun h => by rw [h] at hdp; cases hdp
        have hd : p ≠ [46] := fun h => by rw [h] at hdp; cases hdp
        have q1 : (x.toList == [46, 46]) = false := by rw [toL, hxd]; simpa using hu
        have q2 : (x.toList == [46]) = false := by rw [toL, hxd]; simpa using hd
        have g0 : (0 : Int) ≤ (k : Int) := by omega
        have g1 : (k : Int) < (n : Int) := by omega
        clear hp hR hdp hx hxd hu hd
        go_wp2
        go_roundw
        case rel => exact ⟨k + 1, by omega, by go_num, trivial⟩
        case measure => simp [intOf]; omega
      · obtain rfl : k = n := by omega
        go_wp2_with fail
        go_at_call 14
        refine (C3.out _).mono ?_
        rintro e w3 ⟨rfl, hb3⟩
        have HB3 := Lib.hid (HB2.out.trans (hb3.mono HB2.out.size))
        have CL := Lib.hid (live21_any w3 m (maxlen_below HM2.out hb3))
        clear hb3
        go_wp2_with fail
        go_at_call 6
        refine CL.out.mono ?_
        rintro e w4 ⟨rfl, hb4⟩
        go_wp2
        go_ret
        exact ⟨rfl, HB3.out.trans (hb4.mono HB3.out.size)⟩
end Go.Proofs.YtkijolghaolbhaaDoor
