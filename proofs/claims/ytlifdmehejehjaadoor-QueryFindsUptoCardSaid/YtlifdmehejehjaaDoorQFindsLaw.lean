/- The walk of QueryFinds. Conditions: the events count together at most 2^20; the page's example holds. -/
import Derived.Test.YtlifdmehejehjaaDoorQValues
import Derived.Test.YtlifdmehejehjaaDoorQGive
namespace Go.Proofs.YtlifdmehejehjaaDoor
open Go.RowKit Go.Proofs.YtlifdmehejehjaaDoor.QPlain
set_option linter.unusedVariables false
set_option linter.unusedSimpArgs false
theorem ints_same (A : Option Addr) (n c : Nat) (l : List Int) (A' : Option Addr) (c' : Nat) (w : World) (hl : IntsAt w A n l) (hm : IntsAt w A' n l) (hn : n ≤ 9223372036854775807) :
    Calls Tryd.prog 18 #[.slice A n c, .slice A' n c'] w (RetQ true w) := by
  have h := ints_any A n c l A' n c' l w hl hm hn
  rwa [decide_eq_true (rfl : l = l)] at h
theorem texts_sameQ (A : Option Addr) (n c : Nat) (l : List ByteArray) (A' : Option Addr) (c' : Nat) (w : World) (hl : StrsAt w A n l) (hm : StrsAt w A' n l) (hn : n ≤ 9223372036854775807) :
    Calls Tryd.prog 20 #[.slice A n c, .slice A' n c'] w (RetQ true w) := by
  have h := texts_any A n c l A' n c' l w hl hm hn
  rwa [decide_eq_true (rfl : l = l)] at h
set_option maxRecDepth 100000 in
set_option maxHeartbeats 8000000 in
theorem queryFinds_in (A : Option Addr) (n cp : Nat) (l : List Ev) (A' : Option Addr) (m cp' : Nat) (st : List StN) (sp lo : ByteArray) (w : World) (hl : EvsAt w A n l) (hn : n ≤ 1048576) (hc : n ≤ cp) (hc2 : cp ≤ 9223372036854775807) (he : evSum l ≤ 1048576) (hm : m ≤ 9223372036854775807) (hs : StsAt w A' m st) (hv : ∀ W, Below w.heap.size w W → Calls Tryd.prog 8 #[] W (BelB true W))
    (hg1 : greatB n l = false) (hg2 : greatSt st = false) :
    Calls Tryd.prog 6 #[.slice A n cp, .slice A' m cp', .agg #[.string sp, .string lo]] w (BelB true w) := by
  obtain rfl := hs.1
  obtain ⟨W0, hW0⟩ : ∃ W0, W0 = w.alloc (.cells #[.string sp, .string lo] 37) := ⟨_, rfl⟩
  have hb0 : Below w.heap.size w W0 := by rw [hW0]; exact (Below.refl _ _).alloc (Nat.le_refl _) _
  have e0 : W0.cell? ⟨w.heap.size, 0, none⟩ = some (.string sp) := by rw [hW0]; simp
  have e1 : W0.cell? ⟨w.heap.size, 1, none⟩ = some (.string lo) := by rw [hW0]; simp
  have hsz : w.heap.size < W0.heap.size := by rw [hW0]; simp
  have G1 := great_any A n cp l W0 (hl.below hb0) (Nat.le_trans he (by decide))
  rw [hg1] at G1
  have G2 := fun w' => rgreat_any A' st.length cp' st w' hm
  simp only [hg2] at G2
  have h70 := (greatSt_no hg2).1
  have G1 := Lib.hid G1
  have G2 := Lib.hid G2
  have HW0 := Lib.hid hW0
  have L := Lib.hid (hl.below hb0)
  have HS := Lib.hid (hs.below hb0)
  have HV := Lib.hid hv
  have HB0 := Lib.hid hb0
  have E0 := Lib.hid e0
  have E1 := Lib.hid e1
  have SZ := Lib.hid hsz
  have HES := Lib.hid he
  clear hl hs hv hg1 hg2 hW0 hb0 e0 e1 hsz
  go_enter Tryd.func6, Tryd.ntmps6
  go_wp2_with fail
  rw [← HW0.out]
  refine G1.out.mono ?_
  rintro e w1 ⟨rfl, hB1⟩
  have HB1 := Lib.hid hB1
  clear hB1
  go_wp2_with fail
  refine (G2.out w1 (HS.out.below HB1.out)).mono ?_
  rintro e w1' ⟨rfl, rfl⟩
  go_wp2_with fail
  refine (give_any A' st.length cp' st w1 (by omega) (HS.out.below HB1.out)).mono ?_
  rintro e w2 ⟨A1, c1, rfl, hc1, hc12, hrow, hB2⟩
  have hB02 := HB1.out.trans (hB2.mono HB1.out.size)
  have HBW := Lib.hid (HB0.out.trans (hB02.mono HB0.out.size))
  have hL2 := L.out.below hB02
  have hS2 := HS.out.below hB02
  have hS1 := StsAt.of_own hrow
  have hes := HES.out
  have CF := Lib.hid (fun W (hb : Below w2.heap.size w2 W) => qfind_any A n cp l A1 st.length c1 st W (hL2.below hb) (hS1.below hb) hn hc hc2 hm)
  have CRF := Lib.hid (fun W (hb : Below w2.heap.size w2 W) => rqfind_any A n cp l A' st.length cp' st W (hL2.below hb) (hS2.below hb) hn hm)
  have CV := Lib.hid (fun W (hb : Below w2.heap.size w2 W) => qvalues_any A n cp l A1 st.length c1 st sp lo W (hL2.below hb) (hS1.below hb) hn hc hc2 hm hes)
  have CRV := Lib.hid (fun W (hb : Below w2.heap.size w2 W) => rqvalues_any A n cp l A' st.length cp' st sp lo W (hL2.below hb) (hS2.below hb) hn hm hes)
  have CT := Lib.hid (fun W (hb : Below w2.heap.size w2 W) => qtexts_any A n cp l A1 st.length c1 st W (hL2.below hb) (hS1.below hb) hn hc hc2 hm hes)
  have CRT := Lib.hid (fun W (hb : Below w2.heap.size w2 W) => rqtexts_any A n cp l A' st.length cp' st W (hL2.below hb) (hS2.below hb) hn hc hc2 hm hes)
  have z0 := (hB02.cell (p := ⟨w.heap.size, 0, none⟩) SZ.out).trans E0.out
  have z1 := (hB02.cell (p := ⟨w.heap.size, 1, none⟩) SZ.out).trans E1.out
  have hz2 : w.heap.size < w2.heap.size := Nat.lt_of_lt_of_le SZ.out hB02.size
  have CC := Lib.hid (fun W (hb : Below w2.heap.size w2 W) => (⟨(hb.cell (p := ⟨w.heap.size, 0, none⟩) hz2).trans z0, (hb.cell (p := ⟨w.heap.size, 1, none⟩) hz2).trans z1⟩ : W.cell? ⟨w.heap.size, 0, none⟩ = some (.string sp) ∧ W.cell? ⟨w.heap.size, 1, none⟩ = some (.string lo)))
  have HX := Lib.hid (below_drew w2.heap.size w2)
  have x0 := CC.out _ HX.out
  have HVX := Lib.hid (fun W (hb : Below w2.heap.size w2 W) => HV.out W (HBW.out.trans (hb.mono HBW.out.size)))
  have hfl : (qfindK l st n).length ≤ 9223372036854775807 := Nat.le_trans (qfindK_len l st n) (by omega)
  generalize valsK l sp lo (qfindK l st n) (qfindK l st n).length = vs at *
  generalize textsT l (qfindK l st n) (qfindK l st n).length = ts at *
  generalize qfindK l st n = xs at *
  have HFL := Lib.hid hfl
  clear hB2 hrow hB02 hL2 hS2 hS1 hes G1 G2 hc1 hc12 z0 z1 hz2 hfl h70 HW0
  go_wp2_with fail
  go_region_held3 (fun w' => w'.cell? ⟨w.heap.size, 0, none⟩ = some (.string sp) ∧ w'.cell? ⟨w.heap.size, 1, none⟩ = some (.string lo))
    (first | exact x0 | exact CC.out _ HX.out)
    (first
    | (go_at_call 13
       refine (CF.out _ HX.out).mono ?_
       rintro x w3 ⟨A3, c3, rfl, _, _, hown, hB3⟩
       have HX := Lib.hid (HX.out.trans (hB3.mono HX.out.size))
       have I3 := Lib.hid (IntsAt.of_own hown)
       clear hown hB3)
    | (go_at_call 19
       refine (CRF.out _ HX.out).mono ?_
       rintro x w4 ⟨A4, c4, rfl, _, _, hown, hB4⟩
       have I3 := Lib.hid (I3.out.below hB4)
       have HX := Lib.hid (HX.out.trans (hB4.mono HX.out.size))
       have I4 := Lib.hid (IntsAt.of_own hown)
       clear hown hB4)
    | (go_at_call 18
       refine (ints_same A3 _ c3 _ A4 c4 _ I3.out I4.out HFL.out).mono ?_
       rintro x w5 ⟨rfl, d5, rfl⟩
       have HX := Lib.hid (HX.out.trans (below_drewN _ _ d5)))
    | (go_at_call 21
       refine (CV.out _ HX.out).mono ?_
       rintro x w6 ⟨A6, c6, rfl, hv1, hv2, hS6, hB6⟩
       have HX := Lib.hid (HX.out.trans (hB6.mono HX.out.size))
       have S6 := Lib.hid hS6
       have VL := Lib.hid (Nat.le_trans hv1 hv2)
       clear hS6 hB6 hv1 hv2)
    | (go_at_call 22
       refine (CRV.out _ HX.out).mono ?_
       rintro x w7 ⟨A7, c7, rfl, _, _, hS7, hB7⟩
       have S6 := Lib.hid (S6.out.below hB7)
       have HX := Lib.hid (HX.out.trans (hB7.mono HX.out.size))
       have S7 := Lib.hid hS7
       clear hS7 hB7)
    | (go_at_call 23
       refine (CT.out _ HX.out).mono ?_
       rintro x w8 ⟨A8, c8, rfl, hv1, hv2, hS8, hB8⟩
       have HX := Lib.hid (HX.out.trans (hB8.mono HX.out.size))
       have S8 := Lib.hid hS8
       have TL := Lib.hid (Nat.le_trans hv1 hv2)
       clear hS8 hB8 hv1 hv2)
    | (go_at_call 24
       refine (CRT.out _ HX.out).mono ?_
       rintro x w9 ⟨A9, c9, rfl, _, _, hS9, hB9⟩
       have S8 := Lib.hid (S8.out.below hB9)
       have HX := Lib.hid (HX.out.trans (hB9.mono HX.out.size))
       have S9 := Lib.hid hS9
       clear hS9 hB9)
    | (go_at_call 20
       refine (texts_sameQ A8 _ c8 _ A9 c9 _ S8.out S9.out TL.out).mono ?_
       rintro x w10 ⟨rfl, d10, rfl⟩
       have HX := Lib.hid (HX.out.trans (below_drewN _ _ d10)))
    | (go_at_call 20
       refine (texts_sameQ A6 _ c6 _ A7 c7 _ S6.out S7.out VL.out).mono ?_
       rintro x w11 ⟨rfl, d11, rfl⟩
       have HX := Lib.hid (HX.out.trans (below_drewN _ _ d11)))
    | (go_at_call 8
       refine (HVX.out _ HX.out).mono ?_
       rintro x w12 ⟨rfl, hB12⟩
       have HX := Lib.hid (HX.out.trans (hB12.mono HX.out.size))
       clear hB12))
  all_goals
    go_wp2
    go_ret
    exact ⟨rfl, HBW.out.trans (HX.out.mono HBW.out.size)⟩
set_option maxRecDepth 100000 in
set_option maxHeartbeats 8000000 in
theorem queryFinds_any (A : Option Addr) (n cp : Nat) (l : List Ev) (A' : Option Addr) (m cp' : Nat) (st : List StN) (sp lo : ByteArray) (w : World) (hl : EvsAt w A n l) (hn : n ≤ 1048576) (hc : n ≤ cp) (hc2 : cp ≤ 9223372036854775807) (he : evSum l ≤ 1048576) (hm : m ≤ 9223372036854775807) (hs : StsAt w A' m st) (hv : ∀ W, Below w.heap.size w W → Calls Tryd.prog 8 #[] W (BelB true W)) :
    Calls Tryd.prog 6 #[.slice A n cp, .slice A' m cp', .agg #[.string sp, .string lo]] w (BelB true w) := by
  obtain ⟨W0, hW0⟩ : ∃ W0, W0 = w.alloc (.cells #[.string sp, .string lo] 37) := ⟨_, rfl⟩
  have hb0 : Below w.heap.size w W0 := by rw [hW0]; exact (Below.refl _ _).alloc (Nat.le_refl _) _
  have G1 := Lib.hid (great_any A n cp l W0 (hl.below hb0) (Nat.le_trans he (by decide)))
  have G2 := Lib.hid (fun w' (hb : Below W0.heap.size W0 w') => rgreat_any A' m cp' st w' hm ((hs.below hb0).below hb))
  have HW0 := Lib.hid hW0
  have HB0 := Lib.hid hb0
  cases hg1 : greatB n l with
  | true =>
    rw [hg1] at G1
    have HV := Lib.hid hv
    clear hl hs hv hg1 hW0 hb0
    go_enter Tryd.func6, Tryd.ntmps6
    go_wp2_with fail
    rw [← HW0.out]
    refine G1.out.mono ?_
    rintro e w1 ⟨rfl, hB1⟩
    have HB1 := Lib.hid (HB0.out.trans (hB1.mono HB0.out.size))
    clear hB1
    go_wp2_with fail
    refine (HV.out _ HB1.out).mono ?_
    rintro e w9 ⟨rfl, hB9⟩
    go_wp2
    go_ret
    exact ⟨rfl, HB1.out.trans (hB9.mono HB1.out.size)⟩
  | false =>
    cases hg2 : greatSt st with
    | true =>
      rw [hg1] at G1
      rw [hg2] at G2
      have HV := Lib.hid hv
      clear hl hs hv hg1 hg2 hW0 hb0
      go_enter Tryd.func6, Tryd.ntmps6
      go_wp2_with fail
      rw [← HW0.out]
      refine G1.out.mono ?_
      rintro e w1 ⟨rfl, hB1⟩
      have HB1 := Lib.hid (HB0.out.trans (hB1.mono HB0.out.size))
      have HX1 := Lib.hid hB1
      clear hB1
      go_wp2_with fail
      refine (G2.out _ HX1.out).mono ?_
      rintro e w1' ⟨rfl, rfl⟩
      go_wp2_with fail
      refine (HV.out _ HB1.out).mono ?_
      rintro e w9 ⟨rfl, hB9⟩
      go_wp2
      go_ret
      exact ⟨rfl, HB1.out.trans (hB9.mono HB1.out.size)⟩
    | false => exact queryFinds_in A n cp l A' m cp' st sp lo w hl hn hc hc2 he hm hs hv hg1 hg2
end Go.Proofs.YtlifdmehejehjaaDoor
