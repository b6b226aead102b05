/- The contracts of narthexlaw34's Fill, Great, same, live. Conditions: at most 2^20 of each. -/
import Derived.Test.YtbamcpnmabpacaaScLaw
import Derived.Deep.QuietTactic
namespace Go.Proofs.Ytbamcpnmabpacaa
open Go.RowKit
set_option linter.unusedVariables false
set_option linter.unusedSimpArgs false
def FillS (ls : List (List Bd)) (w : World) (e : Ending) (w' : World) : Prop := ∃ g q, e = .returned (.pointer (some ⟨g, 0, none⟩)) ∧ ScAt w' w.heap.size g ls.reverse q ∧ Below w.heap.size w w'
set_option maxRecDepth 100000 in
set_option maxHeartbeats 2000000 in
theorem fill_any (A : Option Addr) (n c : Nat) (ls : List (List Bd)) (w : World) (h : RowsAt w A n ls) (hn : n ≤ 1048576) (hs : ∀ f ∈ ls, f.length ≤ 1048576) : Calls Try.prog 7 #[.slice A n c] w (FillS ls w) := by
  have H := Lib.hid h
  have HS := Lib.hid hs
  have CN := Lib.hid (newS_any w)
  clear h hs
  go_enter Try.func7, Try.ntmps7
  go_wp2_with fail
  refine CN.out.mono ?_
  rintro e w1 ⟨g, rfl, hsc, hb1⟩
  have HS1 := Lib.hid hsc
  have HB1 := Lib.hid hb1
  clear hsc hb1 CN
  go_wp2
  go_loopw [4] (fun v4 wr => ∃ i : Nat, i ≤ n ∧ v4 = .int .i64 i ∧ Hid (∃ q, ScAt wr w.heap.size g (ls.take i).reverse q) ∧ Hid (Below w.heap.size w wr)) (fun v4 _ => n - (intOf v4).toNat)
  case atStart => exact ⟨0, Nat.zero_le _, rfl, Lib.hid ⟨_, HS1.out⟩, HB1⟩
  case round =>
    obtain ⟨i, hi, rfl, HQ, HB⟩ := hrel
    by_cases hlt : i < n
    · obtain ⟨a, f, B, cf, rfl, hf, hab, hc, hB, hBn⟩ := H.out.2 i hlt
      have hc1 := (HB.out.cell (p := a.add i) (by rw [addBlockS]; exact hab)).trans hc
      have b0 : (0 : Int) ≤ (i : Int) := by omega
      have b1 : (i : Int) < (n : Int) := by omega
      have CG := Lib.hid (give_any B cf f wr (hB.below HB.out) (HS.out f (List.mem_of_getElem? hf)))
      have HF : Hid ((ls.take (i + 1)).reverse = f :: (ls.take i).reverse) := Lib.hid (by rw [List.take_add_one, hf]; simp)
      have hfl := HS.out f (List.mem_of_getElem? hf)
      have hll : (ls.take i).reverse.length ≤ 1048576 := by rw [List.length_reverse, List.length_take]; omega
      clear hf hB hBn hc
      go_wp2_with fail
      refine CG.out.mono ?_
      rintro e w2 ⟨R, c2, rfl, ho, hRn, hb2⟩
      obtain ⟨q, hq⟩ := HQ.out
      have CP := Lib.hid (pushS_any w.heap.size g (ls.take i).reverse q R c2 f w2 (hq.below hb2) (BdsAt.of_own ho) hRn hfl hll (Nat.le_trans HB.out.size hb2.size))
      have HB2 := Lib.hid (HB.out.trans (hb2.mono HB.out.size))
      have HG : Hid (w.heap.size ≤ g) := Lib.hid hq.gbase
      clear ho hRn hb2 hq CG
      go_wp2_with fail
      refine CP.out.mono ?_
      rintro e w3 ⟨rfl, hq3, hk3⟩
      have HQ3 : Hid (∃ q, ScAt w3 w.heap.size g (ls.take (i + 1)).reverse q) := Lib.hid (by rw [HF.out]; exact hq3)
      have HB3 := Lib.hid (HB2.out.trans (hk3.below HB2.out.size HG.out))
      clear hq3 hk3 CP
      go_wp2
      go_roundw
      case rel => exact ⟨i + 1, by omega, by go_num, HQ3, HB3⟩
      case measure => simp [intOf]; omega
    · obtain rfl : i = n := by omega
      have b1 : ¬ (i : Int) < (i : Int) := by omega
      obtain ⟨q, hq⟩ := HQ.out
      rw [← H.out.1, List.take_length] at hq
      have HQ2 := Lib.hid hq
      clear hq HQ
      go_wp2
      go_ret
      exact ⟨g, q, rfl, HQ2.out, HB.out⟩
def GreatS (n : Nat) (ls : List (List Bd)) (w : World) (e : Ending) (w' : World) : Prop := ∃ b : Bool, e = .returned (.bool b) ∧ w = w' ∧ (b = false → n ≤ 30 ∧ (ls.map List.length).sum ≤ 60)
theorem sum_take (ls : List (List Bd)) (i : Nat) (f : List Bd) (h : ls[i]? = some f) : ((ls.take (i + 1)).map List.length).sum = ((ls.take i).map List.length).sum + f.length := by
  rw [List.take_add_one, h]; simp
set_option maxRecDepth 100000 in
set_option maxHeartbeats 2000000 in
theorem great_any (A : Option Addr) (n c : Nat) (ls : List (List Bd)) (w : World) (h : RowsAt w A n ls) (hn : n ≤ 9223372036854775807) (hs : ∀ f ∈ ls, f.length ≤ 9000000000000000) : Calls Try.prog 5 #[.slice A n c] w (GreatS n ls w) := by
  have H := Lib.hid h
  have HS := Lib.hid hs
  clear h hs
  go_enter Try.func5, Try.ntmps5
  go_wp2
  go_loopw [3, 4] (fun v3 v4 wr => ∃ i : Nat, i ≤ n ∧ i ≤ 50 ∧ v4 = .int .i64 i ∧ v3 = .int .i64 (((ls.take i).map List.length).sum : Nat) ∧ ((ls.take i).map List.length).sum ≤ i * 9000000000000000 ∧ wr = w) (fun _ v4 _ => 100 - (intOf v4).toNat)
  case atStart => exact ⟨0, Nat.zero_le _, by omega, rfl, rfl, Nat.zero_le _, rfl⟩
  case round =>
    obtain ⟨i, hi, hi5, rfl, rfl, hsum, rfl⟩ := hrel
    by_cases hlt : i < n
    · by_cases h50 : i < 50
      · obtain ⟨a, f, B, cf, rfl, hf, hab, hc, -, -⟩ := H.out.2 i hlt
        have b0 : (0 : Int) ≤ (i : Int) := by omega
        have b1 : (i : Int) < (n : Int) := by omega
        have b2 : (i : Int) < 50 := by omega
        have hfl := HS.out f (List.mem_of_getElem? hf)
        have HST := Lib.hid (sum_take ls i f hf)
        clear hf
        generalize ((ls.take i).map List.length).sum = sm at *
        go_wp2
        go_roundw
        case rel => exact ⟨i + 1, by omega, by omega, by go_num, by rw [HST.out]; go_num, by rw [HST.out]; omega, by first | rfl | trivial⟩
        case measure => simp [intOf]; omega
      · have b1 : (i : Int) < (n : Int) := by omega
        have b2 : ¬ (i : Int) < 50 := by omega
        have b3 : (30 : Int) < (n : Int) := by omega
        generalize ((ls.take i).map List.length).sum = sm at *
        go_wp2
        go_ret
        exact ⟨true, rfl, rfl, fun h => by cases h⟩
    · obtain rfl : i = n := by omega
      have b1 : ¬ (i : Int) < (i : Int) := by omega
      have hT : ls.take i = ls := by rw [← H.out.1, List.take_length]
      rw [hT] at hsum ⊢
      clear hT
      obtain ⟨sm, hsm⟩ : ∃ sm, sm = (ls.map List.length).sum := ⟨_, rfl⟩
      rw [← hsm] at hsum ⊢
      have HSM := Lib.hid hsm
      clear hsm
      by_cases h30 : 30 < i
      · have b3 : (30 : Int) < (i : Int) := by omega
        go_wp2
        go_ret
        exact ⟨true, rfl, rfl, fun h => by cases h⟩
      · have b3 : ¬ (30 : Int) < (i : Int) := by omega
        by_cases h60 : 60 < sm
        · have b4 : (60 : Int) < (sm : Int) := by omega
          go_wp2
          go_ret
          exact ⟨true, rfl, rfl, fun h => by cases h⟩
        · have b4 : ¬ (60 : Int) < (sm : Int) := by omega
          go_wp2
          go_ret
          exact ⟨false, rfl, rfl, fun _ => ⟨by omega, by rw [← HSM.out]; omega⟩⟩
def SameS (w : World) (e : Ending) (w' : World) : Prop := e = .returned (.bool true) ∧ ∃ d, w' = w.drewN d
set_option maxRecDepth 100000 in
set_option maxHeartbeats 2000000 in
theorem same_any (A : Option Addr) (c : Nat) (l : List Bd) (B : Option Addr) (c2 : Nat) (w : World) (hl : BdsAt w A l.length l) (hm : BdsAt w B l.length l) (hn : l.length ≤ 1048576) : Calls Try.prog 11 #[.slice A l.length c, .slice B l.length c2] w (SameS w) := by
  have HL := Lib.hid hl
  have HM := Lib.hid hm
  clear hl hm
  go_enter Try.func11, Try.ntmps11
  go_wp2
  go_loopw [5] (fun v5 wr => ∃ i d : Nat, i ≤ l.length ∧ v5 = .int .i64 i ∧ wr = w.drewN d) (fun v5 _ => l.length - (intOf v5).toNat)
  case atStart => exact ⟨0, 0, Nat.zero_le _, rfl, rfl⟩
  case round =>
    obtain ⟨i, d, hi, rfl, rfl⟩ := hrel
    by_cases hlt : i < l.length
    · obtain ⟨a, y, rfl, hy, hyb, y0, y1⟩ := HL.out.2 i hlt
      obtain ⟨a2, z, rfl, hz, hzb, z0, z1⟩ := HM.out.2 i hlt
      obtain rfl : y = z := by rw [hy] at hz; injection hz
      have b0 : (0 : Int) ≤ (i : Int) := by omega
      have b1 : (i : Int) < (l.length : Int) := by omega
      clear hy hz
      go_wp2
      go_quiet (fail)
      go_wp2
      go_roundw
      case rel => exact ⟨i + 1, _, by omega, by go_num, rfl⟩
      case measure => simp [intOf]; omega
    · obtain rfl : i = l.length := by omega
      have b1 : ¬ (l.length : Int) < (l.length : Int) := by omega
      go_wp2
      go_ret
      exact ⟨rfl, d, rfl⟩
end Go.Proofs.Ytbamcpnmabpacaa
