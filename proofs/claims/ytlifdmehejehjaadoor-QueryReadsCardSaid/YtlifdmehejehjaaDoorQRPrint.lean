/- The contract of the reference's Print: steps as a text. Conditions: names of at most 2^20 bytes. -/
import Derived.Test.YtlifdmehejehjaaDoorQPrint
import Derived.Test.YtlifdmehejehjaaDoorNameRead
namespace Go.Proofs.YtlifdmehejehjaaDoor
open Go.RowKit Go.Proofs.YtlifdmehejehjaaDoor.QPlain Go.Proofs.YtlifdmehejehjaaDoor.UtfPlain Go.Proofs.YtlifdmehejehjaaDoor.NamePlain
set_option linter.unusedVariables false
set_option linter.unusedSimpArgs false
theorem txtW_succ (ws : List ByteArray) (k : Nat) : txtW ws (k + 1) = (if 0 < k then txtW ws k ++ ⟨#[47]⟩ else txtW ws k) ++ ws.getD k ⟨#[]⟩ := rfl
theorem txtW_size (ws : List ByteArray) (h : ∀ s ∈ ws, s.size ≤ 1048576) (k : Nat) : (txtW ws k).size ≤ k * 1048577 := by
  induction k with
  | zero => exact Nat.zero_le _
  | succ k ih =>
    have hg : (ws.getD k ⟨#[]⟩).size ≤ 1048576 := by
      rw [List.getD_eq_getElem?_getD]
      cases hx : ws[k]? with
      | none => exact Nat.zero_le _
      | some s => exact h s (List.mem_of_getElem? hx)
    have h1 : (⟨#[47]⟩ : ByteArray).size = 1 := rfl
    rw [txtW_succ]
    split
    · rw [ByteArray.size_append, ByteArray.size_append, h1, Nat.add_mul]; omega
    · rw [ByteArray.size_append, Nat.add_mul]; omega
theorem okW_tt {s : ByteArray} : okW ⟨true, true, s⟩ = false := by simp [okW]
theorem okW_tf {s : ByteArray} : okW ⟨true, false, s⟩ = decide (s = ⟨#[]⟩) := by simp [okW]
theorem okW_ft {s : ByteArray} : okW ⟨false, true, s⟩ = decide (s = ⟨#[]⟩) := by simp [okW]
theorem okW_ff {s : ByteArray} : okW ⟨false, false, s⟩ = isN (bsOf s) true := by simp [okW]
set_option maxRecDepth 100000 in
set_option maxHeartbeats 4000000 in
theorem rprint_any (A : Option Addr) (n cp : Nat) (l : List StN) (w : World) (hn : n ≤ 1048576) (hs : StsAt w A n l) (hnm : ∀ x ∈ l, x.nm.size ≤ 1048576) :
    Calls Tryd.prog 17 #[.slice A n cp] w (RetPr (printN l) w) := by
  obtain rfl := hs.1
  obtain ⟨r, hr⟩ : ∃ r, r = printN l := ⟨_, rfl⟩
  rw [← hr]
  have HR := Lib.hid hr
  have HS := Lib.hid hs
  have HNM := Lib.hid hnm
  clear hr hs hnm
  go_enter Tryd.func17, Tryd.ntmps17
  go_wp2
  go_loopw [4, 5] (fun o i wr => ∃ (k : Nat) (t : ByteArray), o = .string t ∧ k ≤ l.length ∧ i = .int .i64 k ∧ Hid (t = txtW (l.map wordN) k) ∧ Hid (∀ x ∈ l.take k, okW x = true) ∧ Hid (Below w.heap.size w wr)) (fun _ i _ => l.length - (intOf i).toNat)
  case atStart => exact ⟨0, _, rfl, by omega, rfl, rfl, (by show ∀ x ∈ [], _; simp), Below.refl _ _⟩
  case round =>
    obtain ⟨k, t, rfl, hk', rfl, HTX, HK, HB⟩ := hrel
    by_cases hlt : k < l.length
    · obtain ⟨a, x, rfl, hx, hal, h0, h1, h2⟩ := (HS.out.below HB.out).2 k hlt
      have b0 : (0 : Int) ≤ (k : Int) := by omega
      have b1 : (k : Int) < (l.length : Int) := by omega
      have hxm := List.mem_of_getElem? hx
      have hsz := HNM.out x hxm
      have hta : l.take (k + 1) = l.take k ++ [x] := by rw [List.take_add_one, hx]; rfl
      have HK1 : Hid (okW x = true → ∀ y ∈ l.take (k + 1), okW y = true) := by
        intro hok y hy
        rw [hta] at hy
        rcases List.mem_append.1 hy with hy | hy
        · exact HK.out y hy
        · simp at hy; subst hy; exact hok
      have HBAD : Hid (okW x = false → r = (⟨#[]⟩, 7)) := fun h => HR.out.trans (printN_bad hxm h)
      have hst := txtW_succ (l.map wordN) k
      have hgd : (l.map wordN).getD k ⟨#[]⟩ = wordN x := by rw [List.getD_eq_getElem?_getD, List.getElem?_map, hx]; rfl
      rw [hgd, ← HTX.out] at hst
      have HST := Lib.hid hst
      obtain ⟨any, deep, nm⟩ := x
      dsimp only at h0 h1 h2 hsz
      have E0 := emp_iff nm
      have RI := Lib.hid (ris_text true nm wr (Nat.le_trans hsz (by decide)))
      have hts : t.size ≤ 1099512676352 := by
        rw [HTX.out]
        have h := txtW_size (l.map wordN) (fun s hs => by obtain ⟨x, hx, rfl⟩ := List.mem_map.1 hs; exact wordN_len (HNM.out x hx)) k
        have := Nat.mul_le_mul_right 1048577 (Nat.le_trans hk' hn)
        omega
      clear hx hxm hta hst hgd
      cases any with
      | true =>
        cases deep with
        | true =>
          have HQ := Lib.hid (HBAD.out okW_tt)
          clear RI
          go_wp2
          go_ret2
          rw [HQ.out]
          exact ⟨rfl, HB.out⟩
        | false =>
          by_cases he : nm = ⟨#[]⟩
          · subst he
            have HK2 := Lib.hid (HK1.out (by rw [okW_tf]; exact decide_eq_true rfl))
            rw [show wordN ⟨true, false, ⟨#[]⟩⟩ = ⟨#[42]⟩ from rfl] at HST
            clear RI
            by_cases hp : 0 < k
            · have q0 : (0 : Int) < (k : Int) := by omega
              have HS2 : Hid (t ++ ⟨#[47]⟩ ++ ⟨#[42]⟩ = txtW (l.map wordN) (k + 1)) := by show _ = _; rw [HST.out, if_pos hp]
              go_wp2
              go_roundw
              case rel => exact ⟨k + 1, _, rfl, by omega, by go_num, HS2, HK2, HB⟩
              case measure => simp [intOf]; omega
            · have q0 : ¬ (0 : Int) < (k : Int) := by omega
              have HS2 : Hid (t ++ ⟨#[42]⟩ = txtW (l.map wordN) (k + 1)) := by show _ = _; rw [HST.out, if_neg hp]
              go_wp2
              go_roundw
              case rel => exact ⟨k + 1, _, rfl, by omega, by go_num, HS2, HK2, HB⟩
              case measure => simp [intOf]; omega
          · have HQ := Lib.hid (HBAD.out (by rw [okW_tf]; exact decide_eq_false he))
            rw [decide_eq_false he] at E0
            clear RI
            go_wp2
            go_ret2
            rw [HQ.out]
            exact ⟨rfl, HB.out⟩
      | false =>
        cases deep with
        | true =>
          by_cases he : nm = ⟨#[]⟩
          · subst he
            have HK2 := Lib.hid (HK1.out (by rw [okW_ft]; exact decide_eq_true rfl))
            rw [show wordN ⟨false, true, ⟨#[]⟩⟩ = ⟨#[42, 42]⟩ from rfl] at HST
            clear RI
            by_cases hp : 0 < k
            · have q0 : (0 : Int) < (k : Int) := by omega
              have HS2 : Hid (t ++ ⟨#[47]⟩ ++ ⟨#[42, 42]⟩ = txtW (l.map wordN) (k + 1)) := by show _ = _; rw [HST.out, if_pos hp]
              go_wp2
              go_roundw
              case rel => exact ⟨k + 1, _, rfl, by omega, by go_num, HS2, HK2, HB⟩
              case measure => simp [intOf]; omega
            · have q0 : ¬ (0 : Int) < (k : Int) := by omega
              have HS2 : Hid (t ++ ⟨#[42, 42]⟩ = txtW (l.map wordN) (k + 1)) := by show _ = _; rw [HST.out, if_neg hp]
              go_wp2
              go_roundw
              case rel => exact ⟨k + 1, _, rfl, by omega, by go_num, HS2, HK2, HB⟩
              case measure => simp [intOf]; omega
          · have HQ := Lib.hid (HBAD.out (by rw [okW_ft]; exact decide_eq_false he))
            rw [decide_eq_false he] at E0
            clear RI
            go_wp2
            go_ret2
            rw [HQ.out]
            exact ⟨rfl, HB.out⟩
        | false =>
          rw [show wordN ⟨false, false, nm⟩ = nm from rfl] at HST
          cases hb : isN (bsOf nm) true with
          | true =>
            have HK2 := Lib.hid (HK1.out (by rw [okW_ff]; exact hb))
            rw [hb] at RI
            clear hb
            by_cases hp : 0 < k
            · have q0 : (0 : Int) < (k : Int) := by omega
              have HS2 : Hid (t ++ ⟨#[47]⟩ ++ nm = txtW (l.map wordN) (k + 1)) := by show _ = _; rw [HST.out, if_pos hp]
              go_wp2_with fail
              refine RI.out.mono ?_
              rintro e w3 ⟨rfl, hB3⟩
              have HB3 := Lib.hid (HB.out.trans (hB3.mono HB.out.size))
              have h0' := (hB3.cell (p := a.add (k * 3)) (by rw [addBlock]; exact hal)).trans h0
              clear hB3 RI
              go_wp2
              go_roundw
              case rel => exact ⟨k + 1, _, rfl, by omega, by go_num, HS2, HK2, HB3⟩
              case measure => simp [intOf]; omega
            · have q0 : ¬ (0 : Int) < (k : Int) := by omega
              have HS2 : Hid (t ++ nm = txtW (l.map wordN) (k + 1)) := by show _ = _; rw [HST.out, if_neg hp]
              go_wp2_with fail
              refine RI.out.mono ?_
              rintro e w3 ⟨rfl, hB3⟩
              have HB3 := Lib.hid (HB.out.trans (hB3.mono HB.out.size))
              clear hB3 RI
              go_wp2
              go_roundw
              case rel => exact ⟨k + 1, _, rfl, by omega, by go_num, HS2, HK2, HB3⟩
              case measure => simp [intOf]; omega
          | false =>
            have HQ := Lib.hid (HBAD.out (by rw [okW_ff]; exact hb))
            rw [hb] at RI
            clear hb
            go_wp2_with fail
            refine RI.out.mono ?_
            rintro e w3 ⟨rfl, hB3⟩
            have HB3 := Lib.hid (HB.out.trans (hB3.mono HB.out.size))
            clear hB3 RI
            go_wp2
            go_ret2
            rw [HQ.out]
            exact ⟨rfl, HB3.out⟩
    · obtain rfl : k = l.length := by omega
      have hall := HK.out
      rw [List.take_length] at hall
      have HQ := Lib.hid (HR.out.trans (printN_ok hall))
      clear hall HK
      by_cases hz : l.length = 0
      · have HQ2 : Hid (r = (⟨#[]⟩, 7)) := by show _ = _; rw [HQ.out, if_pos hz]
        have t0 : ((l.length : Int) == 0) = true := by simpa using hz
        go_wp2
        go_ret2
        rw [HQ2.out]
        exact ⟨rfl, HB.out⟩
      · have t0 : ((l.length : Int) == 0) = false := by simpa using hz
        by_cases h64 : 64 < l.length
        · have HQ2 : Hid (r = (⟨#[]⟩, 13)) := by show _ = _; rw [HQ.out, if_neg hz, if_pos h64]
          have t1 : (64 : Int) < (l.length : Int) := by omega
          go_wp2
          go_ret2
          rw [HQ2.out]
          exact ⟨rfl, HB.out⟩
        · have HQ2 : Hid (r = (t, 0)) := by show _ = _; rw [HQ.out, if_neg hz, if_neg h64, HTX.out]
          have t1 : ¬ (64 : Int) < (l.length : Int) := by omega
          go_wp2
          go_ret2
          rw [HQ2.out]
          exact ⟨rfl, HB.out⟩
end Go.Proofs.YtlifdmehejehjaaDoor
