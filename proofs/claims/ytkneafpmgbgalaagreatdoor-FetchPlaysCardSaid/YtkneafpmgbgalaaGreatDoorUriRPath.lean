/- The contract of narthexref21.path: a path decoded byte by byte. Conditions: at most 2^20 bytes. -/
import Derived.Test.YtkneafpmgbgalaaGreatDoorUriRFind
import Derived.IntWalk
namespace Go.Proofs.YtkneafpmgbgalaaGreatDoor
open Go.RowKit Go.Proofs.YtkneafpmgbgalaaGreatDoor.CharsPlain Go.Proofs.YtkneafpmgbgalaaGreatDoor.UriPlain
set_option linter.unusedVariables false
set_option linter.unusedSimpArgs false
/-- What has been decoded when place k is met. -/
def DecK (l : List UInt8) (k : Nat) (acc : List UInt8) : Prop := decP l = (decP (l.drop k)).map (acc ++ ·)
theorem DecK.start (l : List UInt8) : DecK l 0 [] := by unfold DecK; simp
theorem drop_at (s : ByteArray) (k : Nat) (h : k < s.size) : s.data.toList.drop k = s[k] :: s.data.toList.drop (k + 1) := by
  rw [List.drop_eq_getElem_cons (by rw [len3]; exact h)]; rfl
theorem DecK.step {s : ByteArray} {k : Nat} {acc : List UInt8} (h : DecK s.data.toList k acc) (hk : k < s.size) (hc : s[k] ≠ 37) (ha : amU signsS s[k] = true) : DecK s.data.toList (k + 1) (acc ++ [s[k]]) := by
  unfold DecK at h ⊢
  rw [h, drop_at s k hk, decP_cons _ _ hc, if_pos ha, Option.map_map]
  congr 1
  funext x; simp
theorem DecK.bad {s : ByteArray} {k : Nat} {acc : List UInt8} (h : DecK s.data.toList k acc) (hk : k < s.size) (hc : s[k] ≠ 37) (ha : amU signsS s[k] = false) : decP s.data.toList = none := by
  unfold DecK at h
  rw [h, drop_at s k hk, decP_cons _ _ hc, if_neg (by rw [ha]; decide)]; rfl
theorem DecK.short {s : ByteArray} {k : Nat} {acc : List UInt8} (h : DecK s.data.toList k acc) (hk : k < s.size) (hc : s[k] = 37) (hs : ¬ k + 2 < s.size) : decP s.data.toList = none := by
  unfold DecK at h
  have h1 := drop_at s k hk
  rw [hc] at h1
  have hl : (s.data.toList.drop (k + 1)).length < 2 := by rw [List.length_drop, len3]; omega
  rw [h, h1, (decP_pct _).2.1 (esc_short (37 :: _) (by rw [List.length_cons]; omega)).2]; rfl
theorem drop_pct (s : ByteArray) (k : Nat) (hk : k < s.size) (h1 : k + 1 < s.size) (h2 : k + 2 < s.size) (hc : s[k] = 37) : s.data.toList.drop k = 37 :: s[k + 1] :: s[k + 2] :: s.data.toList.drop (k + 3) := by
  rw [drop_at s k hk, hc, drop_at s (k + 1) h1, drop_at s (k + 2) h2]
theorem DecK.nodig {s : ByteArray} {k : Nat} {acc : List UInt8} (h : DecK s.data.toList k acc) (hk : k < s.size) (h1 : k + 1 < s.size) (h2 : k + 2 < s.size) (hc : s[k] = 37) (hx : hexU s[k + 1] < 0 ∨ hexU s[k + 2] < 0) : decP s.data.toList = none := by
  unfold DecK at h
  rw [h, drop_pct s k hk h1 h2 hc]
  simp only [decP, if_true, if_pos hx]; rfl
theorem DecK.esc {s : ByteArray} {k : Nat} {acc : List UInt8} (h : DecK s.data.toList k acc) (hk : k < s.size) (h1 : k + 1 < s.size) (h2 : k + 2 < s.size) (hc : s[k] = 37) (hx : ¬ (hexU s[k + 1] < 0 ∨ hexU s[k + 2] < 0)) : DecK s.data.toList (k + 3) (acc ++ escD (hexU s[k + 1]) (hexU s[k + 2])) := by
  unfold DecK at h ⊢
  rw [h, drop_pct s k hk h1 h2 hc]
  simp only [decP, if_true, if_neg hx, Option.map_map]
  congr 1
  funext x; simp
theorem hexCut : ∀ k : Nat, k < 16 → (ByteArray.mk #[48, 49, 50, 51, 52, 53, 54, 55, 56, 57, 65, 66, 67, 68, 69, 70]).extract k (k + 1) = bS [hexS.getD k 0] := by decide
theorem extract_one (s : ByteArray) (k : Nat) (h : k < s.size) : s.extract k (k + 1) = bS [s[k]] := by
  apply ByteArray.ext
  show (s.extract k (k + 1)).data = #[s[k]]
  rw [ByteArray.data_extract]
  apply Array.ext'
  have g : s.data.toList[k]'(by rw [len3]; exact h) = s[k] := rfl
  have := drop_at s k h
  simp [Array.toList_extract, List.extract_eq_take_drop, this]
set_option maxRecDepth 100000 in
set_option maxHeartbeats 4000000 in
theorem rpath_any (s : ByteArray) (w : World) (hs : s.size ≤ 1048576) : Calls Tryz.prog 52 #[.string s] w (TellDec s.data.toList w) := by
  go_enter Tryz.func52, Tryz.ntmps52
  go_wp2
  go_loopw [4, 5] (fun v4 v5 wr => ∃ (k : Nat) (X : ByteArray) (acc : List UInt8), k ≤ s.size ∧ v5 = .int .i64 k ∧ v4 = .string X ∧ X.size ≤ k ∧ Hid (X = bS acc) ∧ Hid (DecK s.data.toList k acc) ∧ Hid (Below w.heap.size w wr)) (fun _ v5 _ => s.size - (intOf v5).toNat)
  case atStart => exact ⟨0, ⟨#[]⟩, [], Nat.zero_le _, rfl, rfl, Nat.le_refl _, rfl, DecK.start _, Below.refl _ _⟩
  case round =>
    obtain ⟨k, X, acc, hk, rfl, rfl, hX, HX, HD, HB⟩ := hrel
    by_cases hlt : k < s.size
    · have g0 : (0 : Int) ≤ (k : Int) := by omega
      have g1 : (k : Int) < (s.size : Int) := by omega
      have hB1 : w.heap.size ≤ wr.heap.size := HB.out.size
      by_cases hp : ((s[k].toNat : Int) = 37)
      · have hp1 : ((s[k].toNat : Int) == 37) = true := by simpa using hp
        have hp2 : ((s[k].toNat : Int) != 37) = false := by simpa using hp
        have HP : Hid (s[k] = 37) := (u8_eq _ _ (by decide) (by decide)).1 hp
        clear hp
        by_cases h2 : k + 2 < s.size
        · have h1 : k + 1 < s.size := by omega
          have t1 : ¬ (s.size : Int) ≤ (k : Int) + 2 := by omega
          have t2 : ¬ (k : Int) + 2 ≥ (s.size : Int) := by omega
          have w1 : IntKind.i64.wrap ((k : Int) + 1) = (k : Int) + 1 := IntWalk.i64_in _ (by omega)
          have w2 : IntKind.i64.wrap ((k : Int) + 2) = (k : Int) + 2 := IntWalk.i64_in _ (by omega)
          have p1 : (0 : Int) ≤ (k : Int) + 1 := by omega
          have p2 : (0 : Int) ≤ (k : Int) + 2 := by omega
          have n1 : ((k : Int) + 1).toNat = k + 1 := by omega
          have n2 : ((k : Int) + 2).toNat = k + 2 := by omega
          have l1 : (k : Int) + 1 < (s.size : Int) := by omega
          have l2 : (k : Int) + 2 < (s.size : Int) := by omega
          have c1 : wrap64 (s[k + 1].toNat : Int) = (s[k + 1].toNat : Int) := byte64 _
          have c2 : wrap64 (s[k + 2].toNat : Int) = (s[k + 2].toNat : Int) := byte64 _
          have HDG1 := Lib.hid (fun hx => HD.out.nodig hlt h1 h2 HP.out hx)
          have HDG2 := Lib.hid (fun hx => HD.out.esc hlt h1 h2 HP.out hx)
          have hx1 := (hexU_b s[k + 1]).2
          have hy1 := (hexU_b s[k + 2]).2
          obtain ⟨x, hx⟩ : ∃ x, digit (s[k + 1].toNat : Int) 16 = x := ⟨_, rfl⟩
          obtain ⟨y, hy⟩ : ∃ y, digit (s[k + 2].toNat : Int) 16 = y := ⟨_, rfl⟩
          rw [show hexU s[k + 1] = x from hx] at HDG1 HDG2 hx1
          rw [show hexU s[k + 2] = y from hy] at HDG1 HDG2 hy1
          have HXD := Lib.hid hx
          have HYD := Lib.hid hy
          clear hx hy HD
          go_wp2_with fail
          go_quiet ((go_at_call 67; exact quietRI (rdigit_any _ _ _)))
          rw [HXD.out, HYD.out]
          have HB2 := Lib.hid (below_drewN HB.out nq)
          clear HXD HYD
          by_cases x0 : x < 0
          · have HF := Lib.hid (HDG1.out (Or.inl x0))
            clear HDG1 HDG2
            go_wp2
            go_ret2
            exact TellDec.no HF.out HB2.out
          · by_cases y0 : y < 0
            · have HF := Lib.hid (HDG1.out (Or.inr y0))
              clear HDG1 HDG2
              go_wp2
              go_ret2
              exact TellDec.no HF.out HB2.out
            · have x1 : 0 ≤ x := by omega
              have y1 : 0 ≤ y := by omega
              have HD2 := Lib.hid (HDG2.out (by omega))
              clear HDG1 HDG2
              cases hA : amI plainS (16 * x + y) with
              | true =>
                have HA := Lib.hid hA
                have hE : escD x y = [(16 * x + y).toNat.toUInt8] := by unfold escD; rw [if_pos hA]
                rw [hE] at HD2
                have HX2 : Hid (X ++ ⟨#[(16 * x + y).toNat.toUInt8]⟩ = bS (acc ++ [(16 * x + y).toNat.toUInt8])) := by
                  show _ = _
                  rw [HX.out, show (ByteArray.mk #[(16 * x + y).toNat.toUInt8]) = bS [(16 * x + y).toNat.toUInt8] from rfl, bS_app]
                have q := fun (c : Nat) => conv1 (wr.drewN nq) wr.heap.size c rfl (16 * x + y) (by omega) (by omega)
                obtain ⟨z, hz⟩ : ∃ z, z = (16 * x + y).toNat.toUInt8 := ⟨_, rfl⟩
                rw [← hz] at q HX2 HD2
                have hS := fun w' => run_string_add (P := Tryz.prog) w' X ⟨#[z]⟩ (by omega) (one_size z)
                clear hA hE hz HX
                go_wp2_with fail
                refine (uramong_any _ _ _ (by decide) (by omega) (by omega)).mono ?_
                rintro e w' ⟨rfl, rfl⟩
                rw [show amI (ByteArray.mk #[45, 46, 95, 126]).data.toList (16 * x + y) = true from HA.out]
                go_wp2
                go_roundw
                case rel => exact ⟨k + 3, _, _, by omega, by go_num, rfl, by rw [ByteArray.size_append]; exact Nat.le_trans (Nat.succ_le_succ hX) (by omega), HX2.out, HD2.out, HB2.out.alloc hB1 _⟩
                case measure => simp [intOf]; omega
              | false =>
                have HA := Lib.hid hA
                obtain ⟨X1, hX1⟩ : ∃ X, X = hexS.getD x.toNat 0 := ⟨_, rfl⟩
                obtain ⟨Y1, hY1⟩ : ∃ Y, Y = hexS.getD y.toNat 0 := ⟨_, rfl⟩
                have hE : escD x y = [37, X1, Y1] := by unfold escD; rw [if_neg (by rw [hA]; decide), hX1, hY1]
                rw [hE] at HD2
                have e1 := hexCut x.toNat (by omega)
                have e2 := hexCut y.toNat (by omega)
                rw [← hX1] at e1
                rw [← hY1] at e2
                have HX2 : Hid (X ++ ⟨#[37]⟩ ++ bS [X1] ++ bS [Y1] = bS (acc ++ [37, X1, Y1])) := by
                  show _ = _
                  rw [HX.out, show (ByteArray.mk #[37]) = bS [37] from rfl, bS_app, bS_app, bS_app]
                  congr 1; simp
                have z1 : (bS [X1]).size = 1 := rfl
                have z2 : (bS [Y1]).size = 1 := rfl
                have z0 : (ByteArray.mk #[37]).size = 1 := rfl
                have hS1 := fun w' => run_string_add (P := Tryz.prog) w' X ⟨#[37]⟩ (by omega) (by decide)
                have hS2 := fun w' => run_string_add (P := Tryz.prog) w' (X ++ ⟨#[37]⟩) (bS [X1]) (by rw [ByteArray.size_append, z0]; omega) (by rw [z1]; decide)
                have hS3 := fun w' => run_string_add (P := Tryz.prog) w' (X ++ ⟨#[37]⟩ ++ bS [X1]) (bS [Y1]) (by rw [ByteArray.size_append, ByteArray.size_append, z0, z1]; omega) (by rw [z2]; decide)
                have Z : Hid ((X ++ ⟨#[37]⟩ ++ bS [X1] ++ bS [Y1]).size ≤ k + 3) := by show _ ≤ _; rw [ByteArray.size_append, ByteArray.size_append, ByteArray.size_append, z0, z1, z2]; omega
                obtain ⟨P1, hP1⟩ : ∃ P, P = bS [X1] := ⟨_, rfl⟩
                obtain ⟨P2, hP2⟩ : ∃ P, P = bS [Y1] := ⟨_, rfl⟩
                rw [← hP1] at e1 hS2 hS3 HX2 Z
                rw [← hP2] at e2 hS3 HX2 Z
                obtain ⟨xn, rfl⟩ : ∃ xn : Nat, x = (xn : Int) := ⟨x.toNat, by omega⟩
                obtain ⟨yn, rfl⟩ : ∃ yn : Nat, y = (yn : Int) := ⟨y.toNat, by omega⟩
                rw [Int.toNat_natCast] at e1 e2
                have v1 : IntKind.i64.wrap ((xn : Int) + 1) = (xn : Int) + 1 := IntWalk.i64_in _ (by omega)
                have v2 : IntKind.i64.wrap ((yn : Int) + 1) = (yn : Int) + 1 := IntWalk.i64_in _ (by omega)
                have u1 : ((xn : Int) + 1).toNat = xn + 1 := by omega
                have u2 : ((yn : Int) + 1).toNat = yn + 1 := by omega
                have b1 : (xn : Int) ≤ (xn : Int) + 1 := by omega
                have b2 : (yn : Int) ≤ (yn : Int) + 1 := by omega
                have b3 : (xn : Int) + 1 ≤ 16 := by omega
                have b4 : (yn : Int) + 1 ≤ 16 := by omega
                have b5 : 0 ≤ (xn : Int) + 1 := by omega
                have b6 : 0 ≤ (yn : Int) + 1 := by omega
                have hz : (ByteArray.mk #[48, 49, 50, 51, 52, 53, 54, 55, 56, 57, 65, 66, 67, 68, 69, 70]).size = 16 := rfl
                clear hA hE hX1 hY1 HX z0 z1 z2 hP1 hP2 w1 w2 c1 c2
                go_wp2_with fail
                refine (uramong_any _ _ _ (by decide) (by omega) (by omega)).mono ?_
                rintro e w' ⟨rfl, rfl⟩
                rw [show amI (ByteArray.mk #[45, 46, 95, 126]).data.toList (16 * (xn : Int) + yn) = false from HA.out]
                go_wp2_with fail
                go_quiet (fail)
                go_wp2
                go_roundw
                case rel => exact ⟨k + 3, _, _, by omega, by go_num, rfl, Z.out, HX2.out, HD2.out, below_drewN HB.out _⟩
                case measure => simp [intOf]; omega
        · have t1 : (s.size : Int) ≤ (k : Int) + 2 := by omega
          have t2 : (k : Int) + 2 ≥ (s.size : Int) := by omega
          have HF := Lib.hid (HD.out.short hlt HP.out h2)
          go_wp2
          go_ret2
          exact TellDec.no HF.out HB.out
      · have hp1 : ((s[k].toNat : Int) == 37) = false := by simpa using hp
        have hp2 : ((s[k].toNat : Int) != 37) = true := by simpa using hp
        have HP : Hid (s[k] ≠ 37) := fun h => hp ((u8_eq s[k] 37 (by decide) (by decide)).2 h)
        clear hp
        have hc0 : (0 : Int) ≤ (s[k].toNat : Int) := by omega
        have hc1 : (s[k].toNat : Int) ≤ 255 := by have := s[k].toNat_lt; omega
        cases hA : amI signsS (s[k].toNat : Int) with
        | true =>
          have HA := Lib.hid hA
          have HD2 := Lib.hid (HD.out.step hlt HP.out hA)
          have HX2 : Hid (X ++ s.extract k (k + 1) = bS (acc ++ [s[k]])) := by show _ = _; rw [extract_one s k hlt, HX.out, bS_app]
          have hes : (s.extract k (k + 1)).size = 1 := by rw [extract_one s k hlt]; rfl
          have hS := fun w' => run_string_add (P := Tryz.prog) w' X (s.extract k (k + 1)) (by omega) (by omega)
          have hkk : k + 1 ≤ s.size := hlt
          have HES := Lib.hid hes
          clear hA HD HX hes
          go_wp2_with fail
          refine (uramong_any _ _ _ (by decide) hc0 hc1).mono ?_
          rintro e w' ⟨rfl, rfl⟩
          rw [show amI (ByteArray.mk #[45, 46, 95, 126, 33, 36, 38, 39, 40, 41, 42, 43, 44, 59, 61, 58, 64, 47]).data.toList (s[k].toNat : Int) = true from HA.out]
          go_wp2
          go_roundw
          case rel => exact ⟨k + 1, _, _, by omega, by go_num, rfl, by rw [ByteArray.size_append, HES.out]; omega, HX2.out, HD2.out, HB.out⟩
          case measure => simp [intOf]; omega
        | false =>
          have HA := Lib.hid hA
          have HF := Lib.hid (HD.out.bad hlt HP.out hA)
          clear hA HD HX
          go_wp2_with fail
          refine (uramong_any _ _ _ (by decide) hc0 hc1).mono ?_
          rintro e w' ⟨rfl, rfl⟩
          rw [show amI (ByteArray.mk #[45, 46, 95, 126, 33, 36, 38, 39, 40, 41, 42, 43, 44, 59, 61, 58, 64, 47]).data.toList (s[k].toNat : Int) = false from HA.out]
          go_wp2
          go_ret2
          exact TellDec.no HF.out HB.out
    · obtain rfl : k = s.size := by omega
      have HF : Hid (decP s.data.toList = some acc) := by
        show _ = _
        have := HD.out
        unfold DecK at this
        rw [this, List.drop_eq_nil_of_le (by rw [len3]; exact Nat.le_refl _)]
        simp [decP]
      have hXX := HX.out
      subst hXX
      clear HX HD
      go_wp2
      go_ret2
      exact TellDec.yes HF.out HB.out
end Go.Proofs.YtkneafpmgbgalaaGreatDoor
