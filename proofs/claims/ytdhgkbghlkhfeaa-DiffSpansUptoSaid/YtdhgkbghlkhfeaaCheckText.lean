/- The contract of narthexref40.text: it ends and tells something. Conditions: an event that is not great. -/
import Derived.Test.YtdhgkbghlkhfeaaCheckNames
import Derived.Test.YtdhgkbghlkhfeaaMiscSome
import Derived.Test.YtdhgkbghlkhfeaaCharsRAll
namespace Go.Proofs.Ytdhgkbghlkhfeaa
open Go.RowKit Go.Proofs.Ytdhgkbghlkhfeaa.UtfPlain Go.Proofs.Ytdhgkbghlkhfeaa.NamePlain Go.Proofs.Ytdhgkbghlkhfeaa.CharsPlain
set_option maxRecDepth 100000 in
set_option maxHeartbeats 4000000 in
theorem ctext_any (e : Ev) (w : World) (hok : EvOk w e) (hs : e.all ≤ 1048576) :
    Calls Try.prog 37 #[.agg #[.int .i64 e.k, .string e.sp, .string e.lo, .slice e.A e.n e.c, .string e.tx]] w (SomeB w) := by
  obtain ⟨W, hW, hB0, c0, c1, c2, c3, c4⟩ := evBox w e 31
  have OK := Lib.hid (hok.below hB0)
  have hsz0 := hB0.size
  have B0 := Lib.hid hB0
  have BX := Lib.hid (show w.heap.size < W.heap.size by rw [← hW]; simp)
  have CS := Lib.hid (And.intro c0 (And.intro c1 (And.intro c2 (And.intro c3 c4))))
  have cells : ∀ V, Below W.heap.size W V → V.cell? ⟨w.heap.size, 0, none⟩ = some (.int .i64 e.k) ∧ V.cell? ⟨w.heap.size, 1, none⟩ = some (.string e.sp) ∧ V.cell? ⟨w.heap.size, 2, none⟩ = some (.string e.lo) ∧ V.cell? ⟨w.heap.size, 3, none⟩ = some (.slice e.A e.n e.c) ∧ V.cell? ⟨w.heap.size, 4, none⟩ = some (.string e.tx) := fun V hV =>
    ⟨(hV.cell (p := ⟨w.heap.size, 0, none⟩) BX.out).trans CS.out.1, (hV.cell (p := ⟨w.heap.size, 1, none⟩) BX.out).trans CS.out.2.1, (hV.cell (p := ⟨w.heap.size, 2, none⟩) BX.out).trans CS.out.2.2.1, (hV.cell (p := ⟨w.heap.size, 3, none⟩) BX.out).trans CS.out.2.2.2.1, (hV.cell (p := ⟨w.heap.size, 4, none⟩) BX.out).trans CS.out.2.2.2.2⟩
  have CELLS := Lib.hid cells
  have hall : e.all = e.sp.size + e.lo.size + e.tx.size + atSum e.ats + e.n := rfl
  have htx : e.tx.size ≤ 1048576 := by omega
  have hlo : e.lo.size ≤ 1048576 := by omega
  have mem : ∀ (k : Nat) (x : At), e.ats[k]? = some x → x.va.size ≤ 1048576 := fun k x hx => by
    have h1 := atSum_mem hx
    have h2 : x.size = x.sp.size + x.lo.size + x.va.size := rfl
    omega
  have MEM := Lib.hid mem
  have hn : e.n ≤ 9223372036854775807 := Nat.le_trans hok.2.1 hok.2.2
  clear hok hB0 cells mem hall
  go_enter Try.func37, Try.ntmps37
  go_wp2_with fail
  refine (names_any e _ OK.out hs).mono ?_
  rintro _ w1 ⟨A1, cc1, l, rfl, hll, hl1, hl2, hN, hSm, hB1⟩
  have N := Lib.hid hN
  have SM := Lib.hid hSm
  have HB1 := Lib.hid hB1
  clear hN hSm hB1
  go_wp2_with fail
  go_loopw [4] (fun i wr => ∃ (k : Nat), k ≤ l.length ∧ i = .int .i64 k ∧ Hid (Below w1.heap.size w1 wr)) (fun i _ => l.length - (intOf i).toNat)
  case atStart => exact ⟨0, by omega, rfl, Below.refl _ _⟩
  case round =>
    obtain ⟨k, hk, rfl, HB⟩ := hrel
    have D := Lib.hid (HB1.out.trans (HB.out.mono HB1.out.size))
    by_cases hlt : k < l.length
    · obtain ⟨a, p, hA, hx, hb, g0, g1⟩ := (N.out.below HB.out).2 k hlt
      subst hA
      have hp := SM.out p (List.mem_of_getElem? hx)
      have b0 : (0 : Int) ≤ (k : Int) := by omega
      have b1 : (k : Int) < (l.length : Int) := by omega
      have hcv := Lib.run_convert_string_bytes (P := Try.prog) wr 9 61 5 p.1 Try.underlying9 Try.underlying61 Try.underlying5
      have RA := Lib.hid (rcall_any 0 (some ⟨wr.heap.size, 0, none⟩) p.1.size (grownCap wr p.1.size 0 5) (bsOf p.1) _ (by omega) (by omega) (bytesWorld_bytes wr p.1))
      have HC := Lib.hid (HB.out.trans ((bytesWorld_below wr p.1).mono HB.out.size))
      clear hx hb
      go_wp2_with fail
      refine (RA.out).mono ?_
      rintro _ w2 ⟨rfl, hB9⟩
      have HC := Lib.hid (HC.out.trans (hB9.mono HC.out.size))
      clear hB9 hcv RA
      generalize allK 0 (runes (bsOf p.1)) = b
      cases b with
      | true =>
        go_wp2
        go_roundw
        case rel => exact ⟨k + 1, by omega, by go_num, HC⟩
        case measure => simp [intOf]; omega
      | false =>
        go_wp2
        go_ret
        exact ⟨_, rfl, B0.out.trans ((HB1.out.trans (HC.out.mono HB1.out.size)).mono hsz0)⟩
    · obtain rfl : k = l.length := by omega
      obtain ⟨k0, k1, k2, k3, k4⟩ := CELLS.out wr D.out
      clear k0 k1 k2 k4
      go_wp2_with fail
      go_loopw [5] (fun i wr => ∃ (k : Nat), k ≤ e.n ∧ i = .int .i64 k ∧ Hid (Below W.heap.size W wr)) (fun i _ => e.n - (intOf i).toNat)
      case atStart => exact ⟨0, by omega, rfl, D⟩
      case round =>
        clear k3 D HB
        obtain ⟨k, hk, rfl, HB⟩ := hrel
        obtain ⟨k0, k1, k2, k3, k4⟩ := CELLS.out _ HB.out
        by_cases hlt : k < e.n
        · obtain ⟨a, x, hA, hx, hxa⟩ := (OK.out.1.below HB.out).2 k hlt
          obtain ⟨hxb, g0, g1, g2⟩ := hxa
          have hm := MEM.out k x hx
          have b0 : (0 : Int) ≤ (k : Int) := by omega
          have b1 : (k : Int) < (e.n : Int) := by omega
          have hsz := HB.out.size
          rw [hA] at k3
          have hcv := Lib.run_convert_string_bytes (P := Try.prog) wr 9 61 5 x.va Try.underlying9 Try.underlying61 Try.underlying5
          have RA := Lib.hid (rcall_any 0 (some ⟨wr.heap.size, 0, none⟩) x.va.size (grownCap wr x.va.size 0 5) (bsOf x.va) _ (by omega) (by omega) (bytesWorld_bytes wr x.va))
          have HC := Lib.hid (HB.out.trans ((bytesWorld_below wr x.va).mono HB.out.size))
          clear hx hxb hA g0 g1
          go_wp2_with fail
          refine (RA.out).mono ?_
          rintro _ w2 ⟨rfl, hB9⟩
          have HC := Lib.hid (HC.out.trans (hB9.mono HC.out.size))
          clear hB9 hcv RA
          generalize allK 0 (runes (bsOf x.va)) = b
          cases b with
          | true =>
            go_wp2
            go_roundw
            case rel => exact ⟨k + 1, by omega, by go_num, HC⟩
            case measure => simp [intOf]; omega
          | false =>
            go_wp2
            go_ret
            exact ⟨_, rfl, B0.out.trans (HC.out.mono hsz0)⟩
        · obtain rfl : k = e.n := by omega
          have hcv := Lib.run_convert_string_bytes (P := Try.prog) wr 9 61 5 e.tx Try.underlying9 Try.underlying61 Try.underlying5
          have RA := Lib.hid (rcall_any 0 (some ⟨wr.heap.size, 0, none⟩) e.tx.size (grownCap wr e.tx.size 0 5) (bsOf e.tx) _ (by omega) (by omega) (bytesWorld_bytes wr e.tx))
          have HC := Lib.hid (HB.out.trans ((bytesWorld_below wr e.tx).mono HB.out.size))
          clear HB
          go_wp2_with fail
          refine (RA.out).mono ?_
          rintro _ w2 ⟨rfl, hB9⟩
          have HC := Lib.hid (HC.out.trans (hB9.mono HC.out.size))
          clear hB9 hcv RA
          obtain ⟨j0, j1, j2, j3, j4⟩ := CELLS.out _ HC.out
          clear k0 k1 k2 k3 k4
          generalize allK 0 (runes (bsOf e.tx)) = b
          cases b with
          | false =>
            go_wp2
            go_ret
            exact ⟨_, rfl, B0.out.trans (HC.out.mono hsz0)⟩
          | true =>
            have hcv := Lib.run_convert_string_bytes (P := Try.prog) w2 9 61 5 (e.tx ++ ⟨#[45]⟩) Try.underlying9 Try.underlying61 Try.underlying5
            have hS : (e.tx ++ ⟨#[45]⟩ : ByteArray).size = e.tx.size + 1 := ByteArray.size_append
            have hg1 := grownCap_ge w2 (e.tx ++ ⟨#[45]⟩ : ByteArray).size 0 5
            have hg2 := grownCap_le_maxLen w2 (e.tx ++ ⟨#[45]⟩ : ByteArray).size 0 5 (by unfold maxLen; omega)
            have fn := (mfind_any (some ⟨w2.heap.size, 0, none⟩) (e.tx ++ ⟨#[45]⟩ : ByteArray).size (grownCap w2 (e.tx ++ ⟨#[45]⟩ : ByteArray).size 0 5) (bsOf (e.tx ++ ⟨#[45]⟩)) ⟨#[45, 45]⟩ _ (by omega) hg1 (by unfold maxLen at hg2; omega) (bytesWorld_bytes w2 _) (by decide) (by decide))
            rw [hS] at fn
            have FN := Lib.hid fn
            clear fn
            have HCV := Lib.hid (HC.out.trans ((bytesWorld_below w2 (e.tx ++ ⟨#[45]⟩)).mono HC.out.size))
            obtain ⟨m0, m1, m2, m3, m4⟩ := CELLS.out _ HCV.out
            clear hg1 hg2
            generalize hVw : Lib.bytesWorld w2 5 (e.tx ++ ⟨#[45]⟩) = V at *
            go_wp2_with fail
            repeat' first
              | (go_ret; exact ⟨_, rfl, B0.out.trans (HC.out.mono hsz0)⟩)
              | (go_ret; exact ⟨_, rfl, B0.out.trans (HCV.out.mono hsz0)⟩)
              | (go_at_call 41
                 refine FN.out.mono ?_
                 rintro _ w3 ⟨n, rfl, rfl⟩
                 go_wp2_with fail)
              | (go_at_call 42
                 refine (rputpi_any e.lo e.tx w2 (by omega) (by omega)).mono ?_
                 rintro _ w3 ⟨s, n, rfl, hB9⟩
                 have HC := Lib.hid (HC.out.trans (hB9.mono HC.out.size))
                 clear hB9
                 obtain ⟨r0, r1, r2, r3, r4⟩ := CELLS.out _ HC.out
                 go_wp2_with fail)
              | (go_at_call 42
                 refine (rputpi_any e.lo e.tx V (by omega) (by omega)).mono ?_
                 rintro _ w3 ⟨s, n, rfl, hB9⟩
                 have HC := Lib.hid (HCV.out.trans (hB9.mono HCV.out.size))
                 clear hB9
                 obtain ⟨r0, r1, r2, r3, r4⟩ := CELLS.out _ HC.out
                 go_wp2_with fail)
              | (go_at_call 43
                 refine (rhas_any e.tx 13 _ (by omega)).mono ?_
                 rintro _ w3 ⟨b, rfl, rfl⟩
                 go_wp2_with fail)
            trace_state
end Go.Proofs.Ytdhgkbghlkhfeaa
