/- The walks of narthexlaw21.live, UriSteps. Conditions: internal/bytealg.MaxLen holds an int. -/
import Derived.Test.YtkijolghaolbhaaDoorUriNorm
namespace Go.Proofs.YtkijolghaolbhaaDoor
open Go.RowKit Go.Proofs.YtkijolghaolbhaaDoor.CharsPlain Go.Proofs.YtkijolghaolbhaaDoor.UriPlain
set_option linter.unusedVariables false
set_option linter.unusedSimpArgs false
def TellNorm2 (t : ByteArray) (k : Int) (w : World) (e : Ending) (w' : World) : Prop := e = .returned (.tuple #[.string t, .int .i64 k]) ∧ Below w.heap.size w w'
theorem norm_is (s t : ByteArray) (k : Int) (w : World) (m : Int) (hs : s.size ≤ 1048576) (hm : w.cell? ⟨0, 0, none⟩ = some (.int .i64 m)) (h1 : bS (normU s.data.toList) = t) (h2 : uriE s.data.toList = k) : Calls Tryd.prog 8 #[.string s] w (TellNorm2 t k w) := by
  refine (norm_any s w m hs hm).mono ?_
  rintro e w' ⟨rfl, hb⟩
  rw [h1, h2]
  exact ⟨rfl, hb⟩
theorem maxlen_below {w w' : World} {m : Int} (hm : w.cell? ⟨0, 0, none⟩ = some (.int .i64 m)) (hb : Below w.heap.size w w') : w'.cell? ⟨0, 0, none⟩ = some (.int .i64 m) := (hb.cell (p := ⟨0, 0, none⟩) (World.block_lt_of_cell? _ _ hm)).trans hm
set_option maxRecDepth 100000 in
set_option maxHeartbeats 1000000 in
theorem live21_any (w : World) (m : Int) (hm : w.cell? ⟨0, 0, none⟩ = some (.int .i64 m)) : Calls Tryd.prog 6 #[] w (BelB true w) := by
  have C1 := Lib.hid (norm_is ⟨#[72, 84, 84, 80, 58, 47, 47, 65, 46, 98, 47, 120, 47, 37, 50, 101, 37, 50, 69, 47, 121, 37, 50, 102]⟩ ⟨#[104, 116, 116, 112, 58, 47, 47, 97, 46, 98, 47, 121, 37, 50, 70]⟩ 0 w m (by decide) hm (by rw [show normU _ = [104, 116, 116, 112, 58, 47, 47, 97, 46, 98, 47, 121, 37, 50, 70] from by decide +kernel]; rfl) (by decide +kernel))
  have HM := Lib.hid hm
  clear hm
  go_enter Tryd.func6, Tryd.ntmps6
  go_wp2_with fail
  refine C1.out.mono ?_
  rintro e w1 ⟨rfl, hb1⟩
  have C2 := Lib.hid (norm_is ⟨#[120]⟩ ⟨#[]⟩ 7 w1 m (by decide) (maxlen_below HM.out hb1) (by rw [show normU _ = [] from by decide +kernel]; rfl) (by decide +kernel))
  go_wp2_with fail
  refine C2.out.mono ?_
  rintro e w2 ⟨rfl, hb2⟩
  go_wp2
  go_ret
  exact ⟨rfl, hb1.trans (hb2.mono hb1.size)⟩
theorem dots_is (s t : ByteArray) (w : World) (m : Int) (hs : s.size ≤ 1048576) (hm : w.cell? ⟨0, 0, none⟩ = some (.int .i64 m)) (h1 : bS (dotsL s.data.toList) = t) : Calls Tryd.prog 12 #[.string s] w (TellS t w) := by
  rw [← h1]; exact dots_any s w m hs hm
theorem app_data (a b : ByteArray) : (a ++ b).data.toList = a.data.toList ++ b.data.toList := by rw [ByteArray.data_append, Array.toList_append]
set_option maxRecDepth 100000 in
set_option maxHeartbeats 4000000 in
theorem uriSteps_any (p s : ByteArray) (w : World) (m : Int) (hm : w.cell? ⟨0, 0, none⟩ = some (.int .i64 m)) : Calls Tryd.prog 5 #[.string p, .string s] w (BelB true w) := by
  have HM := Lib.hid hm
  have CL := Lib.hid (live21_any w m hm)
  clear hm
  by_cases hp : 200 < p.size
  · have b1 : (200 : Int) < (p.size : Int) := by omega
    go_enter Tryd.func5, Tryd.ntmps5
    go_wp2_with fail
    refine CL.out.mono ?_
    rintro e w' ⟨rfl, hb⟩
    go_wp2
    go_ret
    exact ⟨rfl, hb⟩
  · by_cases hs : 50 < s.size
    · have b1 : ¬ (200 : Int) < (p.size : Int) := by omega
      have b2 : (50 : Int) < (s.size : Int) := by omega
      go_enter Tryd.func5, Tryd.ntmps5
      go_wp2_with fail
      refine CL.out.mono ?_
      rintro e w' ⟨rfl, hb⟩
      go_wp2
      go_ret
      exact ⟨rfl, hb⟩
    · have b1 : ¬ (200 : Int) < (p.size : Int) := by omega
      have b2 : ¬ (50 : Int) < (s.size : Int) := by omega
      go_enter Tryd.func5, Tryd.ntmps5
      go_wp2
      go_loopw [5] (fun v5 wr => ∃ k : Nat, k ≤ s.size ∧ v5 = .int .i64 k ∧ Hid ((47 : UInt8) ∉ s.data.toList.take k) ∧ wr = w) (fun v5 _ => s.size - (intOf v5).toNat)
      case atStart => exact ⟨0, Nat.zero_le _, rfl, by show ¬ _; simp, rfl⟩
      case round =>
        obtain ⟨k, hk, rfl, HC, rfl⟩ := hrel
        by_cases hlt : k < s.size
        · have g0 : (0 : Int) ≤ (k : Int) := by omega
          have g1 : (k : Int) < (s.size : Int) := by omega
          by_cases hx : ((s[k].toNat : Int) = 47)
          · have t1 : ((s[k].toNat : Int) == 47) = true := by simpa using hx
            clear hx
            go_wp2_with fail
            refine CL.out.mono ?_
            rintro e w' ⟨rfl, hb⟩
            go_wp2
            go_ret
            exact ⟨rfl, hb⟩
          · have t1 : ((s[k].toNat : Int) == 47) = false := by simpa using hx
            have HX := Lib.hid (fun h : s[k] = 47 => hx ((u8_eq s[k] 47 (by decide) (by decide)).2 h))
            clear hx
            go_wp2
            go_roundw
            case rel =>
              refine ⟨k + 1, by omega, by go_num, ?_, trivial⟩
              show ¬ _
              rw [take_snocU s k hlt, List.mem_append]
              rintro (h | h)
              · exact HC.out h
              · simp at h; exact HX.out h.symm
            case measure => simp [intOf]; omega
        · obtain rfl : k = s.size := by omega
          have HC2 : Hid ((47 : UInt8) ∉ s.data.toList) := by
            have := HC.out
            rwa [List.take_of_length_le (by rw [len3]; exact Nat.le_refl _)] at this
          clear HC hlt
          by_cases hd : s = ⟨#[46]⟩
          · subst hd
            go_wp2_with fail
            refine CL.out.mono ?_
            rintro e w' ⟨rfl, hb⟩
            go_wp2
            go_ret
            exact ⟨rfl, hb⟩
          · by_cases hu : s = ⟨#[46, 46]⟩
            · subst hu
              go_wp2_with fail
              refine CL.out.mono ?_
              rintro e w' ⟨rfl, hb⟩
              go_wp2
              go_ret
              exact ⟨rfl, hb⟩
            · have hd1 : s.data.toList ≠ [46] := fun h => hd (by rw [← bS_of s, h]; rfl)
              have hu1 : s.data.toList ≠ [46, 46] := fun h => hu (by rw [← bS_of s, h]; rfl)
              have q1 : (s.toList == [46, 46]) = false := by rw [toL]; simpa using hu1
              have q2 : (s.toList == [46]) = false := by rw [toL]; simpa using hd1
              have HD : Hid (dotty s.data.toList = false) := by show _ = _; simp [dotty, hu1, hd1]
              clear hd hu hd1 hu1
              have z1 : (ByteArray.mk #[47]).size = 1 := rfl
              have z2 : (ByteArray.mk #[47, 46, 46, 47, 120]).size = 5 := rfl
              have z3 : (ByteArray.mk #[47, 120]).size = 2 := rfl
              have z4 : (ByteArray.mk #[47, 46, 47, 120]).size = 4 := rfl
              obtain ⟨X1, hX1⟩ : ∃ X, X = (⟨#[47]⟩ : ByteArray) ++ p ++ ⟨#[47]⟩ ++ s ++ ⟨#[47, 46, 46, 47, 120]⟩ := ⟨_, rfl⟩
              obtain ⟨X2, hX2⟩ : ∃ X, X = (⟨#[47]⟩ : ByteArray) ++ p ++ ⟨#[47, 120]⟩ := ⟨_, rfl⟩
              obtain ⟨X3, hX3⟩ : ∃ X, X = p ++ ⟨#[47, 46, 47, 120]⟩ := ⟨_, rfl⟩
              obtain ⟨X4, hX4⟩ : ∃ X, X = p ++ ⟨#[47, 120]⟩ := ⟨_, rfl⟩
              have k1 : X1.size ≤ 1048576 := by rw [hX1]; simp only [ByteArray.size_append, z1, z2]; omega
              have k2 : X2.size ≤ 1048576 := by rw [hX2]; simp only [ByteArray.size_append, z1, z3]; omega
              have k3 : X3.size ≤ 1048576 := by rw [hX3]; simp only [ByteArray.size_append, z4]; omega
              have k4 : X4.size ≤ 1048576 := by rw [hX4]; simp only [ByteArray.size_append, z3]; omega
              obtain ⟨D, hD⟩ : ∃ D, D = bS (dotsL X2.data.toList) := ⟨_, rfl⟩
              obtain ⟨E, hE⟩ : ∃ E, E = bS (dotsL X4.data.toList) := ⟨_, rfl⟩
              have e1 : bS (dotsL X1.data.toList) = D := by
                rw [hD, hX1, hX2]
                simp only [app_data]
                have := steps_up p.data.toList s.data.toList HC2.out HD.out
                refine congrArg bS (Eq.trans ?_ (this.trans ?_))
                · congr 1; simp
                · congr 1
              have e3 : bS (dotsL X3.data.toList) = E := by
                rw [hE, hX3, hX4]
                simp only [app_data]
                exact congrArg bS (steps_stay p.data.toList)
              have hS1 := fun w' => run_string_add (P := Tryd.prog) w' ⟨#[47]⟩ p (by decide) (by omega)
              have hS2 := fun w' => run_string_add (P := Tryd.prog) w' ((⟨#[47]⟩ : ByteArray) ++ p) ⟨#[47]⟩ (by rw [ByteArray.size_append, z1]; omega) (by decide)
              have hS3 := fun w' => run_string_add (P := Tryd.prog) w' ((⟨#[47]⟩ : ByteArray) ++ p ++ ⟨#[47]⟩) s (by rw [ByteArray.size_append, ByteArray.size_append, z1]; omega) (by omega)
              have hS4 := fun w' => run_string_add (P := Tryd.prog) w' ((⟨#[47]⟩ : ByteArray) ++ p ++ ⟨#[47]⟩ ++ s) ⟨#[47, 46, 46, 47, 120]⟩ (by rw [ByteArray.size_append, ByteArray.size_append, ByteArray.size_append, z1]; omega) (by decide)
              have hS5 := fun w' => run_string_add (P := Tryd.prog) w' ((⟨#[47]⟩ : ByteArray) ++ p) ⟨#[47, 120]⟩ (by rw [ByteArray.size_append, z1]; omega) (by decide)
              have hS6 := fun w' => run_string_add (P := Tryd.prog) w' p ⟨#[47, 46, 47, 120]⟩ (by omega) (by decide)
              have hS7 := fun w' => run_string_add (P := Tryd.prog) w' p ⟨#[47, 120]⟩ (by omega) (by decide)
              rw [← hX1] at hS4
              rw [← hX2] at hS5
              rw [← hX3] at hS6
              rw [← hX4] at hS7
              have C1 := Lib.hid (dots_is X1 D wr m k1 HM.out e1)
              have HE2 := Lib.hid hD.symm
              have HE4 := Lib.hid hE.symm
              have HE3 := Lib.hid e3
              clear hX1 hX2 hX3 hX4 hD hE e1 e3 z1 z2 z3 z4
              go_wp2_with fail
              go_at_call 12
              refine C1.out.mono ?_
              rintro e w1 ⟨rfl, hb1⟩
              have HB1 := Lib.hid hb1
              have HM1 := Lib.hid (maxlen_below HM.out hb1)
              have C2 := Lib.hid (dots_is X2 D w1 m k2 HM1.out HE2.out)
              clear hb1 C1
              go_wp2_with fail
              go_at_call 12
              refine C2.out.mono ?_
              rintro e w2 ⟨rfl, hb2⟩
              have HB2 := Lib.hid (HB1.out.trans (hb2.mono HB1.out.size))
              have HM2 := Lib.hid (maxlen_below HM1.out hb2)
              have C3 := Lib.hid (dots_is X3 E w2 m k3 HM2.out HE3.out)
              clear hb2 C2
              go_wp2_with fail
              go_at_call 12
              refine C3.out.mono ?_
              rintro e w3 ⟨rfl, hb3⟩
              have HB3 := Lib.hid (HB2.out.trans (hb3.mono HB2.out.size))
              have HM3 := Lib.hid (maxlen_below HM2.out hb3)
              have C4 := Lib.hid (dots_is X4 E w3 m k4 HM3.out HE4.out)
              clear hb3 C3
              go_wp2_with fail
              go_at_call 12
              refine C4.out.mono ?_
              rintro e w4 ⟨rfl, hb4⟩
              have HB4 := Lib.hid (HB3.out.trans (hb4.mono HB3.out.size))
              have C5 := Lib.hid (live21_any w4 m (maxlen_below HM3.out hb4))
              clear hb4 C4
              go_wp2_with fail
              go_at_call 6
              refine C5.out.mono ?_
              rintro e w5 ⟨rfl, hb5⟩
              go_wp2
              go_ret
              exact ⟨rfl, HB4.out.trans (hb5.mono HB4.out.size)⟩
end Go.Proofs.YtkijolghaolbhaaDoor
