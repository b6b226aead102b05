/- The contract of narthexref34.Find. Conditions: none. -/
import Derived.Test.YtbamcpnmabpacaaScFn
namespace Go.Proofs.Ytbamcpnmabpacaa
open Go.RowKit
set_option linter.unusedVariables false
set_option linter.unusedSimpArgs false
def spR (x : ByteArray) (bs : List Bd) : ByteArray := bs.foldl (fun s b => if b.p = x then b.s else s) ⟨#[]⟩
theorem spR_snoc (x : ByteArray) (bs : List Bd) (b : Bd) : spR x (bs ++ [b]) = if b.p = x then b.s else spR x bs := by unfold spR; rw [List.foldl_append]; rfl
set_option maxRecDepth 100000 in
set_option maxHeartbeats 4000000 in
theorem rfind_any (A : Option Addr) (n c : Nat) (ls : List (List Bd)) (x : ByteArray) (w : World) (h : RowsAt w A n ls) (hn : n ≤ 1048576) (hs : ∀ f ∈ ls, f.length ≤ 1048576) :
    Calls Try.prog 9 #[.slice A n c, .string x] w (RetS (.tuple #[.string (ansF (spR x ls.flatten) x).1, .bool (ansF (spR x ls.flatten) x).2]) w) := by
  have HR := Lib.hid h
  have HS := Lib.hid hs
  clear h hs
  by_cases h1 : x = xmlB
  · subst h1
    have e : ansF (spR xmlB ls.flatten) xmlB = (xmlU, true) := by unfold ansF; rw [if_pos rfl]
    rw [e]
    unfold xmlU xmlB
    clear e
    go_enter Try.func9, Try.ntmps9
    go_wp2
    go_ret2
    exact ⟨rfl, rfl⟩
  · have t1 := str_noS h1
    by_cases h2 : x = xmlnsB
    · subst h2
      have e : ansF (spR xmlnsB ls.flatten) xmlnsB = (xmlnsU, true) := by unfold ansF; rw [if_neg h1, if_pos rfl]
      rw [e]
      unfold xmlnsU xmlnsB
      clear e
      go_enter Try.func9, Try.ntmps9
      go_wp2
      go_ret2
      exact ⟨rfl, rfl⟩
    · have t2 := str_noS h2
      have he : ∀ m, ansF m x = (m, decide (x = ⟨#[]⟩) || !decide (m = ⟨#[]⟩)) := fun m => by unfold ansF; rw [if_neg h1, if_neg h2]
      have HE := Lib.hid he
      rw [show xmlB.toList = [120, 109, 108] from by simp [xmlB, ByteArray.toList_eq]] at t1
      rw [show xmlnsB.toList = [120, 109, 108, 110, 115] from by simp [xmlnsB, ByteArray.toList_eq]] at t2
      clear he h1 h2
      go_enter Try.func9, Try.ntmps9
      go_wp2
      go_loopw [6, 7] (fun v6 v7 wr => ∃ i : Nat, i ≤ n ∧ v7 = .int .i64 i ∧ v6 = .string (spR x (ls.take i).flatten) ∧ wr = w) (fun _ v7 _ => n - (intOf v7).toNat)
      case atStart => exact ⟨0, Nat.zero_le _, rfl, rfl, rfl⟩
      case round =>
        obtain ⟨i, hi, rfl, rfl, rfl⟩ := hrel
        by_cases hlt : i < n
        · obtain ⟨a, f, B, cf, rfl, hf, hab, hc, hB, -⟩ := HR.out.2 i hlt
          have b0 : (0 : Int) ≤ (i : Int) := by omega
          have b1 : (i : Int) < (n : Int) := by omega
          have HB := Lib.hid hB
          have hfl := HS.out f (List.mem_of_getElem? hf)
          have HF : Hid ((ls.take (i + 1)).flatten = (ls.take i).flatten ++ f) := Lib.hid (by rw [List.take_add_one, hf]; simp)
          obtain ⟨pre, hpre⟩ : ∃ pre, pre = (ls.take i).flatten := ⟨_, rfl⟩
          rw [← hpre] at HF
          rw [← hpre]
          clear hf hB hpre
          go_wp2
          go_loopw [6, 8] (fun v6 v8 wr' => ∃ k : Nat, k ≤ f.length ∧ v8 = .int .i64 k ∧ v6 = .string (spR x (pre ++ f.take k)) ∧ wr' = wr) (fun _ v8 _ => f.length - (intOf v8).toNat)
          case atStart => exact ⟨0, Nat.zero_le _, rfl, by simp, rfl⟩
          case round =>
            obtain ⟨k, hk, rfl, rfl, rfl⟩ := hrel
            by_cases hltk : k < f.length
            · obtain ⟨a2, y, rfl, hy, hyb, y0, y1⟩ := HB.out.2 k hltk
              have d0 : (0 : Int) ≤ (k : Int) := by omega
              have d1 : (k : Int) < (f.length : Int) := by omega
              have HY : Hid (spR x (pre ++ f.take (k + 1)) = if y.p = x then y.s else spR x (pre ++ f.take k)) := Lib.hid (by rw [List.take_add_one, hy]; simp only [Option.toList_some]; rw [← List.append_assoc, spR_snoc])
              clear hy
              generalize spR x (pre ++ f.take k) = sp at *
              by_cases hyx : y.p = x
              · have t3 : (y.p.toList == x.toList) = true := by rw [hyx]; simp
                have HY2 : Hid (spR x (pre ++ f.take (k + 1)) = y.s) := Lib.hid (by rw [HY.out, if_pos hyx])
                clear hyx
                go_wp2
                go_roundw
                case rel => exact ⟨k + 1, by omega, by go_num, by rw [HY2.out], by first | rfl | trivial⟩
                case measure => simp [intOf]; omega
              · have t3 := str_noS hyx
                have HY2 : Hid (spR x (pre ++ f.take (k + 1)) = sp) := Lib.hid (by rw [HY.out, if_neg hyx])
                clear hyx
                go_wp2
                go_roundw
                case rel => exact ⟨k + 1, by omega, by go_num, by rw [HY2.out], by first | rfl | trivial⟩
                case measure => simp [intOf]; omega
            · obtain rfl : k = f.length := by omega
              have d1 : ¬ (f.length : Int) < (f.length : Int) := by omega
              have HE3 : Hid (spR x (pre ++ f.take f.length) = spR x (ls.take (i + 1)).flatten) := Lib.hid (by rw [List.take_length, HF.out])
              rw [HE3.out]
              go_wp2
              go_roundw
              case rel => exact ⟨i + 1, by omega, by go_num, rfl, by first | rfl | trivial⟩
              case measure => simp [intOf]; omega
        · obtain rfl : i = n := by omega
          have b1 : ¬ (i : Int) < (i : Int) := by omega
          have hT : ls.take i = ls := by rw [← HR.out.1, List.take_length]
          rw [hT]
          have HA := Lib.hid (HE.out (spR x ls.flatten))
          clear hT
          generalize spR x ls.flatten = m at *
          by_cases h3 : x = ⟨#[]⟩
          · subst h3
            go_wp2
            go_ret2
            rw [HA.out]
            exact ⟨rfl, rfl⟩
          · have t3 := str_noS h3
            rw [show (⟨#[]⟩ : ByteArray).toList = [] from by simp [ByteArray.toList_eq]] at t3
            by_cases h4 : m = ⟨#[]⟩
            · subst h4
              have HA2 : Hid (ansF ⟨#[]⟩ x = (⟨#[]⟩, false)) := Lib.hid (by rw [HA.out, decide_eq_false h3]; simp)
              clear h3
              go_wp2
              go_ret2
              rw [HA2.out]
              exact ⟨rfl, rfl⟩
            · have t4 := str_noS h4
              rw [show (⟨#[]⟩ : ByteArray).toList = [] from by simp [ByteArray.toList_eq]] at t4
              have HA2 : Hid (ansF m x = (m, true)) := Lib.hid (by rw [HA.out, decide_eq_false h3, decide_eq_false h4]; rfl)
              clear h3 h4
              go_wp2
              go_ret2
              rw [HA2.out]
              exact ⟨rfl, rfl⟩
end Go.Proofs.Ytbamcpnmabpacaa
