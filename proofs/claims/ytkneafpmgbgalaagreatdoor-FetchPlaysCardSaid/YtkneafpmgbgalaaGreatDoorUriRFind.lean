/- The contracts of narthexref08.At and Find at bytes of the call's own, and of narthexref21.low. Conditions: texts of at most 2^40 bytes. -/
import Derived.Test.YtkneafpmgbgalaaGreatDoorUriRDots
import Derived.Lib.IndexMore
import Derived.Lib.ConvBytes
namespace Go.Proofs.YtkneafpmgbgalaaGreatDoor
open Go.RowKit Go.Proofs.YtkneafpmgbgalaaGreatDoor.CharsPlain Go.Proofs.YtkneafpmgbgalaaGreatDoor.UriPlain
set_option linter.unusedVariables false
set_option linter.unusedSimpArgs false
/-- The bytes behind an address. -/
def RawAt (w : World) (a : Addr) (l : List UInt8) : Prop := ∀ j (h : j < l.length), w.cell? (a.add j) = some (.int .u8 (l[j].toNat : Int))
theorem addAddU (a : Addr) (i j : Nat) : (a.add i).add j = a.add (i + j) := by
  unfold Addr.add
  by_cases hi : i = 0 <;> by_cases hj : j = 0 <;> simp [hi, hj, Nat.add_assoc]
theorem occ_is (l s : List UInt8) (k : Nat) (h : k + s.length ≤ l.length) : ((l.drop k).take s.length == s) = Lib.occAt l s k := by
  unfold Lib.occAt
  rw [Bool.eq_iff_iff, beq_iff_eq, List.isPrefixOf_iff_prefix]
  constructor
  · intro h1
    rw [← h1]
    exact List.take_prefix _ _
  · rintro ⟨t, ht⟩
    rw [← ht, List.take_left]
theorem occ_no (l s : List UInt8) (k : Nat) (h : ¬ k + s.length ≤ l.length) (hs : 0 < s.length) : Lib.occAt l s k = false := by
  unfold Lib.occAt
  rw [Bool.eq_false_iff]
  intro h1
  have := (List.isPrefixOf_iff_prefix.1 h1).length_le
  rw [List.length_drop] at this
  omega
set_option maxRecDepth 100000 in
set_option maxHeartbeats 2000000 in
theorem at_raw (a : Addr) (n cp : Nat) (l : List UInt8) (k : Nat) (s : ByteArray) (w : World) (hl : Hid (l.length = n)) (hn : n ≤ 1099511627776) (hcp : n ≤ cp) (hcp2 : cp ≤ 9223372036854775807) (hb : RawAt w a l) (hk : k ≤ n) (hs : 0 < s.size) (hs2 : s.size ≤ 1099511627776) :
    Calls Tryz.prog 65 #[.slice (some a) n cp, .int .i64 k, .string s] w (RetB (Lib.occAt l s.data.toList k) w) := by
  have b0 : (0 : Int) ≤ (k : Int) := by omega
  obtain ⟨b, hbe⟩ : ∃ b, b = Lib.occAt l s.data.toList k := ⟨_, rfl⟩
  rw [← hbe]
  have hll := hl.out
  have hsl := len3 s
  by_cases hlt : k + s.size ≤ n
  · obtain ⟨X, hX⟩ : ∃ X, X = bS ((l.drop k).take s.size) := ⟨_, rfl⟩
    have hXl : ((l.drop k).take s.size).length = s.size := by rw [List.length_take, List.length_drop]; omega
    have hcv := fun c' => run_convert_bytes_back (P := Tryz.prog) w 34 9 5 (a.add k) c' ((l.drop k).take s.size) Tryz.underlying34 Tryz.underlying5 Tryz.underlying9 (fun j hj => by
      rw [addAddU]
      have h1 := hb (k + j) (by rw [hXl] at hj; omega)
      rw [h1]
      simp)
    rw [hXl, show ByteArray.mk ((l.drop k).take s.size).toArray = X from hX.symm] at hcv
    have hT : (X.toList == s.toList) = b := by
      rw [hbe, ByteArray.toList_eq, ByteArray.toList_eq, hX, bS_data, ← occ_is l s.data.toList k (by omega), hsl]
    rw [show s.size = k + s.size - k by omega] at hcv
    rw [show k + s.size - k = s.size by omega] at hcv
    have t1 : (s.size : Int) ≤ (n : Int) - (k : Int) := by omega
    have b1 : (k : Int) ≤ (k : Int) + (s.size : Int) := by omega
    have b2 : (k : Int) + (s.size : Int) ≤ (cp : Int) := by omega
    have b3 : ¬ cp = k := by omega
    have b4 : k + s.size ≤ cp := by omega
    have HT := Lib.hid hT
    clear hb hl hT hX hXl hll hsl hbe
    go_enter Tryz.func65, Tryz.ntmps65
    go_wp2
    go_ret
    exact ⟨ret_bool (by first | exact HT.out | simpa using HT.out), rfl⟩
  · have t1 : ¬ (s.size : Int) ≤ (n : Int) - (k : Int) := by omega
    have hf : b = false := by rw [hbe]; exact occ_no _ _ _ (by omega) (by omega)
    subst hf
    clear hb hbe hll hl hsl
    go_enter Tryz.func65, Tryz.ntmps65
    go_wp2
    go_ret
    exact ⟨rfl, rfl⟩
set_option maxRecDepth 100000 in
set_option maxHeartbeats 2000000 in
theorem find_raw (a : Addr) (n cp : Nat) (l : List UInt8) (s : ByteArray) (w : World) (hl : Hid (l.length = n)) (hn : n ≤ 1099511627776) (hcp : n ≤ cp) (hcp2 : cp ≤ 9223372036854775807) (hb : RawAt w a l) (hs : 0 < s.size) (hs2 : s.size ≤ 1099511627776) :
    Calls Tryz.prog 49 #[.slice (some a) n cp, .int .i64 0, .string s] w (RetI (Lib.index l s.data.toList) w) := by
  have HA : Hid (∀ k, k ≤ n → Calls Tryz.prog 65 #[.slice (some a) n cp, .int .i64 k, .string s] w (RetB (Lib.occAt l s.data.toList k) w)) := fun k hk => at_raw a n cp l k s w hl hn hcp hcp2 hb hk hs hs2
  obtain ⟨r, hr⟩ : ∃ r, r = Lib.index l s.data.toList := ⟨_, rfl⟩
  rw [← hr]
  have HR := Lib.hid hr
  clear hb hr
  go_enter Tryz.func49, Tryz.ntmps49
  go_wp2
  go_loopw [7] (fun v7 wr => ∃ k : Nat, k ≤ n + 1 ∧ v7 = .int .i64 k ∧ Hid (∀ j, j < k → Lib.occAt l s.data.toList j = false) ∧ wr = w) (fun v7 _ => n + 1 - (intOf v7).toNat)
  case atStart => exact ⟨0, Nat.zero_le _, rfl, fun j hj => by omega, rfl⟩
  case round =>
    obtain ⟨k, hgk, rfl, HNO, rfl⟩ := hrel
    by_cases hlt : k ≤ n
    · have b1 : (k : Int) ≤ (n : Int) := by omega
      have C := Lib.hid (HA.out k hlt)
      go_wp2_with fail
      refine C.out.mono ?_
      rintro e w' ⟨rfl, rfl⟩
      clear C
      cases hb : Lib.occAt l s.data.toList k with
      | true =>
        have HF : Hid (r = (k : Int)) := by show _ = _; rw [HR.out]; exact Lib.index_first (by rw [hl.out]; exact hlt) hb HNO.out
        clear hb
        go_wp2
        go_ret
        rw [HF.out]
        exact ⟨rfl, rfl⟩
      | false =>
        have HN2 : Hid (∀ j, j < k + 1 → Lib.occAt l s.data.toList j = false) := fun j hj => by
          rcases Nat.lt_or_ge j k with h | h
          · exact HNO.out j h
          · have : j = k := by omega
            rw [this]; exact hb
        clear hb
        go_wp2
        go_roundw
        case rel => exact ⟨k + 1, by omega, by go_num, HN2.out, trivial⟩
        case measure => simp [intOf]; omega
    · have b1 : ¬ (k : Int) ≤ (n : Int) := by omega
      have HF : Hid (r = -1) := by show _ = _; rw [HR.out]; exact Lib.index_none (fun j hj => HNO.out j (by rw [hl.out] at hj; omega))
      go_wp2
      go_ret
      rw [HF.out]
      exact ⟨rfl, rfl⟩
theorem bytesWorld_belowU (w : World) (s : ByteArray) : Below w.heap.size w (Lib.bytesWorld w 5 s) :=
  ⟨by unfold Lib.bytesWorld World.freeze; split <;> rfl, by unfold Lib.bytesWorld World.freeze; split <;> rfl, by unfold Lib.bytesWorld World.freeze; split <;> rfl, by rw [Lib.bytesWorld_size]; omega, fun k hk => Lib.bytesWorld_at_old w _ s k hk⟩
theorem bytesWorld_raw (w : World) (s : ByteArray) : RawAt (Lib.bytesWorld w 5 s) ⟨w.heap.size, 0, none⟩ s.data.toList := by
  intro k hk
  have ha : (⟨w.heap.size, 0, none⟩ : Addr).add k = ⟨w.heap.size, k, none⟩ := by unfold Addr.add; split <;> simp_all
  rw [ha, Lib.bytesWorld_cell w _ s k (by rw [← len3]; exact hk)]
  simp only [List.getD_eq_getElem?_getD, List.getElem?_eq_getElem hk, Option.getD_some]
theorem one_size (y : UInt8) : ((ByteArray.mk #[y]).size : Int) ≤ 8388608 := by show ((1 : Nat) : Int) ≤ _; decide
set_option maxRecDepth 100000 in
set_option maxHeartbeats 2000000 in
theorem rlow_any (s : ByteArray) (w : World) (hs : s.size ≤ 1048576) : Calls Tryz.prog 53 #[.string s] w (TellS (bS (Lib.toLowerA s.data.toList)) w) := by
  go_enter Tryz.func53, Tryz.ntmps53
  go_wp2
  go_loopw [3, 4] (fun v3 v4 wr => ∃ (k : Nat) (X : ByteArray), k ≤ s.size ∧ v4 = .int .i64 k ∧ v3 = .string X ∧ X.size ≤ k ∧ Hid (X = bS (Lib.toLowerA (s.data.toList.take k))) ∧ Hid (Below w.heap.size w wr)) (fun _ v4 _ => s.size - (intOf v4).toNat)
  case atStart => exact ⟨0, ⟨#[]⟩, Nat.zero_le _, rfl, rfl, Nat.le_refl _, rfl, Below.refl _ _⟩
  case round =>
    obtain ⟨k, X, hk, rfl, rfl, hX, HX, HB⟩ := hrel
    by_cases hlt : k < s.size
    · have g0 : (0 : Int) ≤ (k : Int) := by omega
      have g1 : (k : Int) < (s.size : Int) := by omega
      have hB1 : w.heap.size ≤ wr.heap.size := HB.out.size
      have hsn := take_snocU s k hlt
      have hc0 : (0 : Int) ≤ (s[k].toNat : Int) := by omega
      have hc1 : (s[k].toNat : Int) ≤ 255 := by have := s[k].toNat_lt; omega
      have hL : Lib.toLowerA (s.data.toList.take (k + 1)) = Lib.toLowerA (s.data.toList.take k) ++ [Lib.lowerB s[k]] := by rw [hsn]; unfold Lib.toLowerA; rw [List.map_append]; rfl
      have HL := Lib.hid hL
      clear hL hsn
      by_cases hU : 65 ≤ (s[k].toNat : Int) ∧ (s[k].toNat : Int) ≤ 90
      · obtain ⟨u1, u2⟩ := hU
        have hlow : Lib.lowerB s[k] = ((s[k].toNat : Int) + 32).toNat.toUInt8 := by
          have hu : Lib.isUpperB s[k] = true := (upper_iff _).2 ⟨by omega, by omega⟩
          have h1 := lower_toNat _ hu
          unfold Lib.lowerB
          rw [if_pos hu]
          apply UInt8.toNat_inj.1
          rw [h1]
          simp
          omega
        have HX2 : Hid (X ++ ⟨#[((s[k].toNat : Int) + 32).toNat.toUInt8]⟩ = bS (Lib.toLowerA (s.data.toList.take (k + 1)))) := by
          show _ = _
          rw [HL.out, hlow, HX.out, show (ByteArray.mk #[((s[k].toNat : Int) + 32).toNat.toUInt8]) = bS [((s[k].toNat : Int) + 32).toNat.toUInt8] from rfl, bS_app]
        have q := fun (c : Nat) => conv1 wr wr.heap.size c rfl ((s[k].toNat : Int) + 32) (by omega) (by omega)
        have hS := fun w' => run_string_add (P := Tryz.prog) w' X ⟨#[((s[k].toNat : Int) + 32).toNat.toUInt8]⟩ (by omega) (one_size _)
        clear hlow
        go_wp2
        go_roundw
        case rel => exact ⟨k + 1, _, by omega, by go_num, rfl, by rw [ByteArray.size_append]; exact Nat.succ_le_succ hX, HX2.out, HB.out.alloc hB1 _⟩
        case measure => simp [intOf]; omega
      · have hlow : Lib.lowerB s[k] = (s[k].toNat : Int).toNat.toUInt8 := by
          have hu : Lib.isUpperB s[k] = false := by
            rw [Bool.eq_false_iff]; intro h; have := (upper_iff _).1 h; omega
          unfold Lib.lowerB
          rw [hu]
          simp
        have HX2 : Hid (X ++ ⟨#[(s[k].toNat : Int).toNat.toUInt8]⟩ = bS (Lib.toLowerA (s.data.toList.take (k + 1)))) := by
          show _ = _
          rw [HL.out, hlow, HX.out, show (ByteArray.mk #[(s[k].toNat : Int).toNat.toUInt8]) = bS [(s[k].toNat : Int).toNat.toUInt8] from rfl, bS_app]
        have q := fun (c : Nat) => conv1 wr wr.heap.size c rfl (s[k].toNat : Int) (by omega) (by omega)
        obtain ⟨y, hy⟩ : ∃ y, y = (s[k].toNat : Int).toNat.toUInt8 := ⟨_, rfl⟩
        rw [← hy] at q HX2
        have hS := fun w' => run_string_add (P := Tryz.prog) w' X ⟨#[y]⟩ (by omega) (one_size _)
        clear hlow hy
        by_cases u1 : 65 ≤ (s[k].toNat : Int)
        · have u2 : ¬ (s[k].toNat : Int) ≤ 90 := fun h => hU ⟨u1, h⟩
          clear hU
          go_wp2
          go_roundw
          case rel => exact ⟨k + 1, _, by omega, by go_num, rfl, by rw [ByteArray.size_append]; exact Nat.succ_le_succ hX, HX2.out, HB.out.alloc hB1 _⟩
          case measure => simp [intOf]; omega
        · clear hU
          go_wp2
          go_roundw
          case rel => exact ⟨k + 1, _, by omega, by go_num, rfl, by rw [ByteArray.size_append]; exact Nat.succ_le_succ hX, HX2.out, HB.out.alloc hB1 _⟩
          case measure => simp [intOf]; omega
    · obtain rfl : k = s.size := by omega
      have HF : Hid (X = bS (Lib.toLowerA s.data.toList)) := by
        show _ = _
        rw [HX.out, List.take_of_length_le (by rw [len3]; exact Nat.le_refl _)]
      clear HX
      go_wp2
      go_ret
      rw [← HF.out]
      exact ⟨rfl, HB.out⟩
end Go.Proofs.YtkneafpmgbgalaaGreatDoor
