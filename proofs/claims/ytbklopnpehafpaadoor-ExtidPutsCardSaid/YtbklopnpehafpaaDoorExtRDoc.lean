/- The contract of narthexref13.Doctype. Conditions: at most 2^20 bytes. Printed by gen-extrdoc.py. -/
import Derived.Test.YtbklopnpehafpaaDoorExtDoc
import Derived.Deep.Cut
namespace Go.Proofs.YtbklopnpehafpaaDoor
open Go.RowKit Go.Proofs.YtbklopnpehafpaaDoor.UtfPlain Go.Proofs.YtbklopnpehafpaaDoor.NamePlain Go.Proofs.YtbklopnpehafpaaDoor.CharsPlain
set_option linter.unusedVariables false
set_option linter.unusedSimpArgs false
theorem docTail_open (xs nm pub sys : List Int) (out : Bool) (j : Int) (k : Nat) (hk : blankZ xs j = k) (h : atN xs k [91] = true) : docTail xs nm pub sys out j = ⟨true, nm, pub, sys, out, true, (k : Int) + 1, 0⟩ := by
  unfold docTail; rw [hk, Int.toNat_natCast, if_pos h]
theorem docTail_shut (xs nm pub sys : List Int) (out : Bool) (j : Int) (k : Nat) (hk : blankZ xs j = k) (h : atN xs k [91] = false) (h2 : atN xs k [62] = true) : docTail xs nm pub sys out j = ⟨true, nm, pub, sys, out, false, (k : Int) + 1, 0⟩ := by
  unfold docTail; rw [hk, Int.toNat_natCast, if_neg (by simp [h]), if_pos h2]
theorem docTail_none (xs nm pub sys : List Int) (out : Bool) (j : Int) (k : Nat) (hk : blankZ xs j = k) (h : atN xs k [91] = false) (h2 : atN xs k [62] = false) : docTail xs nm pub sys out j = docZ 0 7 := by
  unfold docTail; rw [hk, Int.toNat_natCast, if_neg (by simp [h]), if_neg (by simp [h2])]
theorem docName_id2 (xs : List Int) (nm : List Int) (j k : Nat) (hk : blankZ xs j = k) (h1 : j < k) (h : atN xs k [83] = true ∨ atN xs k [80] = true) : docName xs (nm, (j : Int), 0) = docId xs nm (extN xs k) := by
  unfold docName
  rw [if_pos rfl]
  dsimp only
  rw [hk, Int.toNat_natCast, if_pos ⟨by omega, h⟩]
theorem docName_no2 (xs : List Int) (nm : List Int) (j k : Nat) (hk : blankZ xs j = k) (h : ¬ (j < k ∧ (atN xs k [83] = true ∨ atN xs k [80] = true))) : docName xs (nm, (j : Int), 0) = docTail xs nm [] [] false j := by
  unfold docName
  rw [if_pos rfl]
  dsimp only
  rw [hk, Int.toNat_natCast, if_neg (fun h2 => h ⟨by omega, h2.2⟩)]
set_option maxRecDepth 100000 in
set_option maxHeartbeats 16000000 in
theorem rdoc_in (A : Option Addr) (n cp i : Nat) (xs : List Int) (w : World) (hn : n ≤ 1048576) (hcp : n ≤ cp) (hcp2 : cp ≤ 9223372036854775807) (hi : i ≤ n) (hb : BytesAt w A n xs) :
    Calls Tryd.prog 7 #[.slice A n cp, .int .i64 i] w (TellDoc (docN xs i) w) := by
  have b0 : (0 : Int) ≤ (i : Int) := by omega
  have b1 : ¬ (n : Int) < (i : Int) := by omega
  have b2 : i ≤ cp := by omega
  obtain ⟨W1, hW1⟩ : ∃ W1, W1 = w.alloc (.cells #[.bool false, .string ⟨#[]⟩, .string ⟨#[]⟩, .string ⟨#[]⟩, .bool false, .bool false] 31) := ⟨_, rfl⟩
  have hB1 : Below w.heap.size w W1 := by rw [hW1]; exact (Below.refl _ _).alloc (Nat.le_refl _) _
  have hz1 : W1.heap.size = w.heap.size + 1 := by rw [hW1, World.alloc]; simp
  have hR1 : HdBlk 31 w.heap.size false ⟨#[]⟩ ⟨#[]⟩ ⟨#[]⟩ false false W1 := by rw [hW1]; exact HdBlk.made _ _ _ _ _ _ _ _
  have AT := fun V s k h1 h2 h3 (hV : Below w.heap.size w V) => at_any A n cp k s xs V (by omega) hcp hcp2 (hb.below hV) h1 h2 h3
  have A1 := AT W1 ⟨#[60, 33, 68, 79, 67, 84, 89, 80, 69]⟩ i (by decide) (by decide) (by omega) hB1
  rw [show bsOf ⟨#[60, 33, 68, 79, 67, 84, 89, 80, 69]⟩ = markB from by decide +kernel] at A1
  have AO : ∀ V (k : Nat) (hk : k ≤ n) (hV : Below w.heap.size w V), Calls Tryd.prog 15 #[.slice A n cp, .int .i64 k, .string ⟨#[91]⟩] V (RetB (atN xs k [91]) V) := fun V k hk hV => AT V ⟨#[91]⟩ k (by decide) (by decide) (by omega) hV
  have AC : ∀ V (k : Nat) (hk : k ≤ n) (hV : Below w.heap.size w V), Calls Tryd.prog 15 #[.slice A n cp, .int .i64 k, .string ⟨#[62]⟩] V (RetB (atN xs k [62]) V) := fun V k hk hV => AT V ⟨#[62]⟩ k (by decide) (by decide) (by omega) hV
  have AS : ∀ V (k : Nat) (hk : k ≤ n) (hV : Below w.heap.size w V), Calls Tryd.prog 15 #[.slice A n cp, .int .i64 k, .string ⟨#[83]⟩] V (RetB (atN xs k [83]) V) := fun V k hk hV => AT V ⟨#[83]⟩ k (by decide) (by decide) (by omega) hV
  have AP : ∀ V (k : Nat) (hk : k ≤ n) (hV : Below w.heap.size w V), Calls Tryd.prog 15 #[.slice A n cp, .int .i64 k, .string ⟨#[80]⟩] V (RetB (atN xs k [80]) V) := fun V k hk hV => AT V ⟨#[80]⟩ k (by decide) (by decide) (by omega) hV
  have BL := fun V j (hV : Below w.heap.size w V) => rblanks_any A n cp j xs V (by omega) (hb.below hV)
  have NM := fun V j (hV : Below w.heap.size w V) => rread_any false A n cp j xs V (by omega) hcp hcp2 (hb.below hV)
  have EX := fun V j (hV : Below w.heap.size w V) => rext_any A n cp j xs V hn hcp hcp2 (hb.below hV)
  obtain ⟨r, hr⟩ : ∃ r, r = docN xs i := ⟨_, rfl⟩
  rw [← hr]
  unfold docN at hr
  rw [if_neg (by rw [hb.1]; omega), Int.toNat_natCast] at hr
  generalize atN xs i markB = s at A1 hr
  have HL := Lib.hid hb.1
  have HR := Lib.hid hr
  have A1 := Lib.hid A1
  have AO := Lib.hid AO
  have AC := Lib.hid AC
  have AS := Lib.hid AS
  have AP := Lib.hid AP
  have BL := Lib.hid BL
  have NM := Lib.hid NM
  have EX := Lib.hid EX
  have HB1 := Lib.hid hB1
  have HR1 := Lib.hid hR1
  have HV1 := Lib.hid hW1
  have HZ1 := Lib.hid hz1
  clear hb hr hB1 hz1 hR1 hW1 AT
  cases s with
  | false =>
    have HQ : Hid (r = docZ (i : Int) 0) := by show _ = _; rw [HR.out]; rfl
    have HZ := HB1
    obtain ⟨r0, r1, r2, r3, r4, r5, s0, s1, s2, s3, s4, s5⟩ := HR1.out.cells
    go_enter Tryd.func7, Tryd.ntmps7
    go_wp2_with fail
    rw [← HV1.out]
    refine A1.out.mono ?_
    rintro e w1 ⟨rfl, rfl⟩
    go_wp2
    refine bodyPost_ret (v := .tuple #[.agg #[.bool false, .string ⟨#[]⟩, .string ⟨#[]⟩, .string ⟨#[]⟩, .bool false, .bool false], .int .i64 (i : Int), .int .i64 0]) (by simp [results, Tryd.results7, go_sem, r0, r1, r2, r3, r4, r5, s0, s1, s2, s3, s4, s5]) rfl ?_
    rw [HQ.out]
    refine ⟨rfl, ?_⟩
    repeat refine Below.setCell ?_ (by first | exact Nat.le_refl _) _
    exact HZ.out
  | true =>
    have HY0 : Hid (r = if blankZ xs ((i : Int) + 9) = (i : Int) + 9 then docZ 0 7 else docName xs (readN xs false (blankZ xs ((i : Int) + 9)))) := by show _ = _; rw [HR.out]; rfl
    have EB := BL.out W1 ((i : Int) + 9) HB1.out
    by_cases hz : blankZ xs ((i : Int) + 9) = (i : Int) + 9
    · have HQ : Hid (r = docZ 0 7) := by show _ = _; rw [HY0.out, if_pos hz]
      have tz : (blankZ xs ((i : Int) + 9) == (i : Int) + 9) = true := by simpa using hz
      generalize blankZ xs ((i : Int) + 9) = z0 at *
      have EB := Lib.hid EB
      have HZ := HB1
      clear hz HY0
      obtain ⟨r0, r1, r2, r3, r4, r5, s0, s1, s2, s3, s4, s5⟩ := HR1.out.cells
      go_enter Tryd.func7, Tryd.ntmps7
      go_wp2_with fail
      rw [← HV1.out]
      refine A1.out.mono ?_
      rintro e w1 ⟨rfl, rfl⟩
      go_wp2_with fail
      refine EB.out.mono ?_
      rintro e w1 ⟨rfl, rfl⟩
      go_wp2
      refine bodyPost_ret (v := .tuple #[.agg #[.bool false, .string ⟨#[]⟩, .string ⟨#[]⟩, .string ⟨#[]⟩, .bool false, .bool false], .int .i64 0, .int .i64 7]) (by simp [results, Tryd.results7, go_sem, r0, r1, r2, r3, r4, r5, s0, s1, s2, s3, s4, s5]) rfl ?_
      rw [HQ.out]
      refine ⟨rfl, ?_⟩
      repeat refine Below.setCell ?_ (by first | exact Nat.le_refl _) _
      exact HZ.out
    · have HY1 : Hid (r = docName xs (readN xs false (blankZ xs ((i : Int) + 9)))) := by show _ = _; rw [HY0.out, if_neg hz]
      have tz : (blankZ xs ((i : Int) + 9) == (i : Int) + 9) = false := by simpa using hz
      generalize blankZ xs ((i : Int) + 9) = z0 at *
      have EB := Lib.hid EB
      clear hz HY0
      have NM := Lib.hid (NM.out W1 z0 HB1.out)
      have hnx := readN_next xs false z0
      generalize readN xs false z0 = nm at NM HY1 hnx
      obtain ⟨n1, n2, n3⟩ := nm
      dsimp only at hnx
      by_cases hn3 : n3 = 0
      · subst hn3
        obtain ⟨j, hj, hjn⟩ := hnx rfl
        subst hj
        rw [HL.out] at hjn
        obtain ⟨q, hq, hq1, hq2⟩ := blankZ_nat xs j (by rw [HL.out]; exact hjn)
        rw [HL.out] at hq2
        have HQQ := Lib.hid hq
        clear hq hnx
        have q0 : (0 : Int) ≤ (q : Int) := by omega
        have hjq : ¬ j < q ∨ (j < q ∧ Hid (atN xs q [83] = true)) ∨ (j < q ∧ Hid (atN xs q [83] = false) ∧ Hid (atN xs q [80] = true)) ∨ (j < q ∧ Hid (atN xs q [83] = false) ∧ Hid (atN xs q [80] = false)) := by
          by_cases h : j < q
          · cases h1 : atN xs q [83]
            · cases h2 : atN xs q [80]
              · exact .inr (.inr (.inr ⟨h, rfl, rfl⟩))
              · exact .inr (.inr (.inl ⟨h, rfl, rfl⟩))
            · exact .inr (.inl ⟨h, rfl⟩)
          · exact .inl h
        have KQ : (j < q ∧ (Hid (atN xs q [83] = true) ∨ (Hid (atN xs q [83] = false) ∧ Hid (atN xs q [80] = true)))) ∨ ¬ j < q ∨ (j < q ∧ Hid (atN xs q [83] = false) ∧ Hid (atN xs q [80] = false)) := by
          rcases hjq with h | ⟨h1, h2⟩ | ⟨h1, h2, h3⟩ | ⟨h1, h2, h3⟩
          · exact .inr (.inl h)
          · exact .inl ⟨h1, .inl h2⟩
          · exact .inl ⟨h1, .inr ⟨h2, h3⟩⟩
          · exact .inr (.inr ⟨h1, h2, h3⟩)
        clear hjq
        rcases KQ with ⟨hjq, hsp⟩ | hno
        · have HY2 := Lib.hid (HY1.out.trans (docName_id2 xs n1 j q HQQ.out hjq (by rcases hsp with h | ⟨-, h⟩; exact .inl h.out; exact .inr h.out)))
          clear HY1
          have d0 : (j : Int) < (q : Int) := by omega
          have EX := Lib.hid (fun V => EX.out V q)
          have hxx := extN_next xs q
          generalize extN xs q = x at EX HY2 hxx
          obtain ⟨x1, x2, x3, x4⟩ := x
          dsimp only at hxx
          by_cases hx4 : x4 = 0
          · subst hx4
            obtain ⟨j2, hj2, hj2n⟩ := hxx rfl
            subst hj2
            rw [HL.out] at hj2n
            have HJ := Lib.hid hj2n
            clear hxx
            have HT : Hid (r = docTail xs n1 x1 x2 true j2) := by show _ = _; rw [HY2.out]; rfl
            clear HY2
            go_enter Tryd.func7, Tryd.ntmps7
            go_wp2_with fail
            rw [← HV1.out]
            refine A1.out.mono ?_
            rintro e w1 ⟨rfl, rfl⟩
            go_wp2_with fail
            refine EB.out.mono ?_
            rintro e w1 ⟨rfl, rfl⟩
            go_wp2_with fail
            refine NM.out.mono ?_
            rintro e w4 ⟨rfl, hB4⟩
            have hR4 := HR1.out.below hB4
            have hZ4 := HB1.out.trans (hB4.mono HB1.out.size)
            have hgt : w.heap.size < w4.heap.size := by have h1 := hB4.size; have h2 := HZ1.out; omega
            have g0 : ¬ w.heap.size = w4.heap.size := by omega
            have g1 : ¬ w4.heap.size = w.heap.size := by omega
            have HG := Lib.hid (Nat.le_of_lt hgt)
            clear hgt
            obtain ⟨V4, hV4⟩ : ∃ V4, V4 = w4.alloc (.cells #[.bool true, .string (strOfNums n1), .string ⟨#[]⟩, .string ⟨#[]⟩, .bool false, .bool false] 31) := ⟨_, rfl⟩
            have hB5 : Below w4.heap.size w4 V4 := by rw [hV4]; exact (Below.refl _ _).alloc (Nat.le_refl _) _
            have HZ := Lib.hid (hZ4.trans (hB5.mono HG.out))
            have HRV := Lib.hid (hR4.below hB5)
            have HHV : Hid (HdBlk 31 w4.heap.size true (strOfNums n1) ⟨#[]⟩ ⟨#[]⟩ false false V4) := by show HdBlk _ _ _ _ _ _ _ _ _; rw [hV4]; exact HdBlk.made _ _ _ _ _ _ _ _
            have HV4 := Lib.hid hV4
            clear hB4 hR4 hZ4 hB5 hV4
            go_wp2_with fail
            rw [← HV4.out]
            refine (BL.out _ _ HZ.out).mono ?_
            rintro e w9 ⟨rfl, rfl⟩
            rw [HQQ.out]
            have S1 := AS.out V4 q hq2 HZ.out
            have S2 := AP.out V4 q hq2 HZ.out
            rcases hsp with u1 | ⟨u1, u2⟩
            · rw [u1.out] at S1
              have S1 := Lib.hid S1
              go_wp2_with fail
              refine S1.out.mono ?_
              rintro e w9 ⟨rfl, rfl⟩
              go_wp2_with fail
              refine (EX.out _ HZ.out).mono ?_
              rintro e w6 ⟨rfl, hB6⟩
              have hR6 := HRV.out.below hB6
              have hH6 := HHV.out.below hB6
              have hZ6 := HZ.out.trans (hB6.mono HZ.out.size)
              have hl6 : w4.heap.size < w6.heap.size := hH6.lt
              have g2 : ¬ w4.heap.size = w6.heap.size := by omega
              have g3 : ¬ w6.heap.size = w4.heap.size := by omega
              have g4 : ¬ w.heap.size = w6.heap.size := by have := HG.out; omega
              have g5 : ¬ w6.heap.size = w.heap.size := by have := HG.out; omega
              have h06 : w.heap.size ≤ w6.heap.size := by have := HG.out; omega
              obtain ⟨V6, hV6⟩ : ∃ V6, V6 = w6.alloc (.cells #[.string (strOfNums x1), .string (strOfNums x2)] 25) := ⟨_, rfl⟩
              have hB7 : Below w6.heap.size w6 V6 := by rw [hV6]; exact (Below.refl _ _).alloc (Nat.le_refl _) _
              have hR7 := hR6.below hB7
              have hH7 := hH6.below hB7
              have hZ7 := hZ6.trans (hB7.mono h06)
              have HV6 := Lib.hid hV6
              clear hB6 HZ HRV HHV hR6 hH6 hZ6 hl6 hB7 hV6
              go_upto_region 15 with (fail)
              rw [← HV6.out]
              have i6 : IdBlk w6.heap.size (strOfNums x1) (strOfNums x2) V6 := by unfold IdBlk; rw [HV6.out, World.alloc]; simp
              obtain ⟨i0, i1, j0, j1⟩ := i6.cells
              clear i6
              obtain ⟨k0, k1, k2, k3, k4, k5, l0, l1, l2, l3, l4, l5⟩ := hH7.cells
              have HZ := Lib.hid (((hZ7.setCell (p := ⟨w4.heap.size, 2, none⟩) HG.out (.string (strOfNums x1))).setCell (p := ⟨w4.heap.size, 3, none⟩) HG.out (.string (strOfNums x2))).setCell (p := ⟨w4.heap.size, 4, none⟩) HG.out (.bool true))
              have HRV := Lib.hid (((hR7.other g0 2 (.string (strOfNums x1))).other g0 3 (.string (strOfNums x2))).other g0 4 (.bool true))
              have HHV := Lib.hid (((hH7.set2 (strOfNums x1)).set3 (strOfNums x2)).set4 true)
              clear hR7 hH7 hZ7
              go_wp2_with fail
              clear k0 k1 k2 k3 k4 k5 l0 l1 l2 l3 l4 l5 i0 i1 j0 j1
              generalize ((V6.setCell ⟨w4.heap.size, 2, none⟩ (.string (strOfNums x1))).setCell ⟨w4.heap.size, 3, none⟩ (.string (strOfNums x2))).setCell ⟨w4.heap.size, 4, none⟩ (.bool true) = V7 at HZ HRV HHV ⊢
              go_wp2_with fail
              refine (BL.out _ _ HZ.out).mono ?_
              rintro e w9 ⟨rfl, rfl⟩
              obtain ⟨jn, hjn, hj1, hj2⟩ := blankZ_nat xs j2 (by rw [HL.out]; exact HJ.out)
              rw [hjn]
              rw [HL.out] at hj2
              have HJN := Lib.hid hjn
              clear hjn
              have c0 : (0 : Int) ≤ (jn : Int) := by omega
              have O1 := Lib.hid (AO.out _ jn hj2 HZ.out)
              have O2 := Lib.hid (AC.out _ jn hj2 HZ.out)
              by_cases h91 : atN xs jn [91] = true
              · have HQ := Lib.hid (HT.out.trans (docTail_open _ _ _ _ _ _ _ HJN.out h91))
                rw [h91] at O1
                have O1 := Lib.hid O1.out
                clear h91
                obtain ⟨r0, r1, r2, r3, r4, r5, s0, s1, s2, s3, s4, s5⟩ := HRV.out.cells
                obtain ⟨k0, k1, k2, k3, k4, k5, l0, l1, l2, l3, l4, l5⟩ := HHV.out.cells
                go_wp2_with fail
                refine O1.out.mono ?_
                rintro e w9 ⟨rfl, rfl⟩
                go_wp2
                refine bodyPost_ret (v := .tuple #[.agg #[.bool true, .string (strOfNums n1), .string (strOfNums x1), .string (strOfNums x2), .bool true, .bool true], .int .i64 ((jn : Int) + 1), .int .i64 0]) (by simp [results, Tryd.results7, go_sem, r0, r1, r2, r3, r4, r5, s0, s1, s2, s3, s4, s5, k0, k1, k2, k3, k4, k5, l0, l1, l2, l3, l4, l5]) rfl ?_
                rw [HQ.out]
                refine ⟨rfl, ?_⟩
                repeat refine Below.setCell ?_ (by first | exact Nat.le_refl _ | exact HG.out) _
                exact HZ.out
              · have g91 : atN xs jn [91] = false := by simpa using h91
                rw [g91] at O1
                have O1 := Lib.hid O1.out
                by_cases h62 : atN xs jn [62] = true
                · have HQ := Lib.hid (HT.out.trans (docTail_shut _ _ _ _ _ _ _ HJN.out g91 h62))
                  rw [h62] at O2
                  have O2 := Lib.hid O2.out
                  clear h91 g91 h62
                  obtain ⟨r0, r1, r2, r3, r4, r5, s0, s1, s2, s3, s4, s5⟩ := HRV.out.cells
                  obtain ⟨k0, k1, k2, k3, k4, k5, l0, l1, l2, l3, l4, l5⟩ := HHV.out.cells
                  go_wp2_with fail
                  refine O1.out.mono ?_
                  rintro e w9 ⟨rfl, rfl⟩
                  go_wp2_with fail
                  refine O2.out.mono ?_
                  rintro e w9 ⟨rfl, rfl⟩
                  go_wp2
                  refine bodyPost_ret (v := .tuple #[.agg #[.bool true, .string (strOfNums n1), .string (strOfNums x1), .string (strOfNums x2), .bool true, .bool false], .int .i64 ((jn : Int) + 1), .int .i64 0]) (by simp [results, Tryd.results7, go_sem, r0, r1, r2, r3, r4, r5, s0, s1, s2, s3, s4, s5, k0, k1, k2, k3, k4, k5, l0, l1, l2, l3, l4, l5]) rfl ?_
                  rw [HQ.out]
                  refine ⟨rfl, ?_⟩
                  repeat refine Below.setCell ?_ (by first | exact Nat.le_refl _ | exact HG.out) _
                  exact HZ.out
                · have g62 : atN xs jn [62] = false := by simpa using h62
                  have HQ := Lib.hid (HT.out.trans (docTail_none _ _ _ _ _ _ _ HJN.out g91 g62))
                  rw [g62] at O2
                  have O2 := Lib.hid O2.out
                  clear h91 g91 h62 g62
                  obtain ⟨r0, r1, r2, r3, r4, r5, s0, s1, s2, s3, s4, s5⟩ := HRV.out.cells
                  go_wp2_with fail
                  refine O1.out.mono ?_
                  rintro e w9 ⟨rfl, rfl⟩
                  go_wp2_with fail
                  refine O2.out.mono ?_
                  rintro e w9 ⟨rfl, rfl⟩
                  go_wp2
                  refine bodyPost_ret (v := .tuple #[.agg #[.bool false, .string ⟨#[]⟩, .string ⟨#[]⟩, .string ⟨#[]⟩, .bool false, .bool false], .int .i64 0, .int .i64 7]) (by simp [results, Tryd.results7, go_sem, r0, r1, r2, r3, r4, r5, s0, s1, s2, s3, s4, s5]) rfl ?_
                  rw [HQ.out]
                  refine ⟨rfl, ?_⟩
                  repeat refine Below.setCell ?_ (by first | exact Nat.le_refl _) _
                  exact HZ.out
            · rw [u1.out] at S1
              rw [u2.out] at S2
              have S1 := Lib.hid S1
              have S2 := Lib.hid S2
              go_wp2_with fail
              refine S1.out.mono ?_
              rintro e w9 ⟨rfl, rfl⟩
              go_wp2_with fail
              refine S2.out.mono ?_
              rintro e w9 ⟨rfl, rfl⟩
              go_wp2_with fail
              refine (EX.out _ HZ.out).mono ?_
              rintro e w6 ⟨rfl, hB6⟩
              have hR6 := HRV.out.below hB6
              have hH6 := HHV.out.below hB6
              have hZ6 := HZ.out.trans (hB6.mono HZ.out.size)
              have hl6 : w4.heap.size < w6.heap.size := hH6.lt
              have g2 : ¬ w4.heap.size = w6.heap.size := by omega
              have g3 : ¬ w6.heap.size = w4.heap.size := by omega
              have g4 : ¬ w.heap.size = w6.heap.size := by have := HG.out; omega
              have g5 : ¬ w6.heap.size = w.heap.size := by have := HG.out; omega
              have h06 : w.heap.size ≤ w6.heap.size := by have := HG.out; omega
              obtain ⟨V6, hV6⟩ : ∃ V6, V6 = w6.alloc (.cells #[.string (strOfNums x1), .string (strOfNums x2)] 25) := ⟨_, rfl⟩
              have hB7 : Below w6.heap.size w6 V6 := by rw [hV6]; exact (Below.refl _ _).alloc (Nat.le_refl _) _
              have hR7 := hR6.below hB7
              have hH7 := hH6.below hB7
              have hZ7 := hZ6.trans (hB7.mono h06)
              have HV6 := Lib.hid hV6
              clear hB6 HZ HRV HHV hR6 hH6 hZ6 hl6 hB7 hV6
              go_upto_region 15 with (fail)
              rw [← HV6.out]
              have i6 : IdBlk w6.heap.size (strOfNums x1) (strOfNums x2) V6 := by unfold IdBlk; rw [HV6.out, World.alloc]; simp
              obtain ⟨i0, i1, j0, j1⟩ := i6.cells
              clear i6
              obtain ⟨k0, k1, k2, k3, k4, k5, l0, l1, l2, l3, l4, l5⟩ := hH7.cells
              have HZ := Lib.hid (((hZ7.setCell (p := ⟨w4.heap.size, 2, none⟩) HG.out (.string (strOfNums x1))).setCell (p := ⟨w4.heap.size, 3, none⟩) HG.out (.string (strOfNums x2))).setCell (p := ⟨w4.heap.size, 4, none⟩) HG.out (.bool true))
              have HRV := Lib.hid (((hR7.other g0 2 (.string (strOfNums x1))).other g0 3 (.string (strOfNums x2))).other g0 4 (.bool true))
              have HHV := Lib.hid (((hH7.set2 (strOfNums x1)).set3 (strOfNums x2)).set4 true)
              clear hR7 hH7 hZ7
              go_wp2_with fail
              clear k0 k1 k2 k3 k4 k5 l0 l1 l2 l3 l4 l5 i0 i1 j0 j1
              generalize ((V6.setCell ⟨w4.heap.size, 2, none⟩ (.string (strOfNums x1))).setCell ⟨w4.heap.size, 3, none⟩ (.string (strOfNums x2))).setCell ⟨w4.heap.size, 4, none⟩ (.bool true) = V7 at HZ HRV HHV ⊢
              go_wp2_with fail
              refine (BL.out _ _ HZ.out).mono ?_
              rintro e w9 ⟨rfl, rfl⟩
              obtain ⟨jn, hjn, hj1, hj2⟩ := blankZ_nat xs j2 (by rw [HL.out]; exact HJ.out)
              rw [hjn]
              rw [HL.out] at hj2
              have HJN := Lib.hid hjn
              clear hjn
              have c0 : (0 : Int) ≤ (jn : Int) := by omega
              have O1 := Lib.hid (AO.out _ jn hj2 HZ.out)
              have O2 := Lib.hid (AC.out _ jn hj2 HZ.out)
              by_cases h91 : atN xs jn [91] = true
              · have HQ := Lib.hid (HT.out.trans (docTail_open _ _ _ _ _ _ _ HJN.out h91))
                rw [h91] at O1
                have O1 := Lib.hid O1.out
                clear h91
                obtain ⟨r0, r1, r2, r3, r4, r5, s0, s1, s2, s3, s4, s5⟩ := HRV.out.cells
                obtain ⟨k0, k1, k2, k3, k4, k5, l0, l1, l2, l3, l4, l5⟩ := HHV.out.cells
                go_wp2_with fail
                refine O1.out.mono ?_
                rintro e w9 ⟨rfl, rfl⟩
                go_wp2
                refine bodyPost_ret (v := .tuple #[.agg #[.bool true, .string (strOfNums n1), .string (strOfNums x1), .string (strOfNums x2), .bool true, .bool true], .int .i64 ((jn : Int) + 1), .int .i64 0]) (by simp [results, Tryd.results7, go_sem, r0, r1, r2, r3, r4, r5, s0, s1, s2, s3, s4, s5, k0, k1, k2, k3, k4, k5, l0, l1, l2, l3, l4, l5]) rfl ?_
                rw [HQ.out]
                refine ⟨rfl, ?_⟩
                repeat refine Below.setCell ?_ (by first | exact Nat.le_refl _ | exact HG.out) _
                exact HZ.out
              · have g91 : atN xs jn [91] = false := by simpa using h91
                rw [g91] at O1
                have O1 := Lib.hid O1.out
                by_cases h62 : atN xs jn [62] = true
                · have HQ := Lib.hid (HT.out.trans (docTail_shut _ _ _ _ _ _ _ HJN.out g91 h62))
                  rw [h62] at O2
                  have O2 := Lib.hid O2.out
                  clear h91 g91 h62
                  obtain ⟨r0, r1, r2, r3, r4, r5, s0, s1, s2, s3, s4, s5⟩ := HRV.out.cells
                  obtain ⟨k0, k1, k2, k3, k4, k5, l0, l1, l2, l3, l4, l5⟩ := HHV.out.cells
                  go_wp2_with fail
                  refine O1.out.mono ?_
                  rintro e w9 ⟨rfl, rfl⟩
                  go_wp2_with fail
                  refine O2.out.mono ?_
                  rintro e w9 ⟨rfl, rfl⟩
                  go_wp2
                  refine bodyPost_ret (v := .tuple #[.agg #[.bool true, .string (strOfNums n1), .string (strOfNums x1), .string (strOfNums x2), .bool true, .bool false], .int .i64 ((jn : Int) + 1), .int .i64 0]) (by simp [results, Tryd.results7, go_sem, r0, r1, r2, r3, r4, r5, s0, s1, s2, s3, s4, s5, k0, k1, k2, k3, k4, k5, l0, l1, l2, l3, l4, l5]) rfl ?_
                  rw [HQ.out]
                  refine ⟨rfl, ?_⟩
                  repeat refine Below.setCell ?_ (by first | exact Nat.le_refl _ | exact HG.out) _
                  exact HZ.out
                · have g62 : atN xs jn [62] = false := by simpa using h62
                  have HQ := Lib.hid (HT.out.trans (docTail_none _ _ _ _ _ _ _ HJN.out g91 g62))
                  rw [g62] at O2
                  have O2 := Lib.hid O2.out
                  clear h91 g91 h62 g62
                  obtain ⟨r0, r1, r2, r3, r4, r5, s0, s1, s2, s3, s4, s5⟩ := HRV.out.cells
                  go_wp2_with fail
                  refine O1.out.mono ?_
                  rintro e w9 ⟨rfl, rfl⟩
                  go_wp2_with fail
                  refine O2.out.mono ?_
                  rintro e w9 ⟨rfl, rfl⟩
                  go_wp2
                  refine bodyPost_ret (v := .tuple #[.agg #[.bool false, .string ⟨#[]⟩, .string ⟨#[]⟩, .string ⟨#[]⟩, .bool false, .bool false], .int .i64 0, .int .i64 7]) (by simp [results, Tryd.results7, go_sem, r0, r1, r2, r3, r4, r5, s0, s1, s2, s3, s4, s5]) rfl ?_
                  rw [HQ.out]
                  refine ⟨rfl, ?_⟩
                  repeat refine Below.setCell ?_ (by first | exact Nat.le_refl _) _
                  exact HZ.out
          · have HQ : Hid (r = docZ 0 x4) := by show _ = _; rw [HY2.out]; unfold docId; rw [if_neg hx4]
            have t3 : (x4 == 0) = false := by simpa using hx4
            have t4 : (x4 != 0) = true := by simpa using hx4
            clear hx4 hxx HY2
            go_enter Tryd.func7, Tryd.ntmps7
            go_wp2_with fail
            rw [← HV1.out]
            refine A1.out.mono ?_
            rintro e w1 ⟨rfl, rfl⟩
            go_wp2_with fail
            refine EB.out.mono ?_
            rintro e w1 ⟨rfl, rfl⟩
            go_wp2_with fail
            refine NM.out.mono ?_
            rintro e w4 ⟨rfl, hB4⟩
            have hR4 := HR1.out.below hB4
            have hZ4 := HB1.out.trans (hB4.mono HB1.out.size)
            have hgt : w.heap.size < w4.heap.size := by have h1 := hB4.size; have h2 := HZ1.out; omega
            have g0 : ¬ w.heap.size = w4.heap.size := by omega
            have g1 : ¬ w4.heap.size = w.heap.size := by omega
            have HG := Lib.hid (Nat.le_of_lt hgt)
            clear hgt
            obtain ⟨V4, hV4⟩ : ∃ V4, V4 = w4.alloc (.cells #[.bool true, .string (strOfNums n1), .string ⟨#[]⟩, .string ⟨#[]⟩, .bool false, .bool false] 31) := ⟨_, rfl⟩
            have hB5 : Below w4.heap.size w4 V4 := by rw [hV4]; exact (Below.refl _ _).alloc (Nat.le_refl _) _
            have HZ := Lib.hid (hZ4.trans (hB5.mono HG.out))
            have HRV := Lib.hid (hR4.below hB5)
            have HHV : Hid (HdBlk 31 w4.heap.size true (strOfNums n1) ⟨#[]⟩ ⟨#[]⟩ false false V4) := by show HdBlk _ _ _ _ _ _ _ _ _; rw [hV4]; exact HdBlk.made _ _ _ _ _ _ _ _
            have HV4 := Lib.hid hV4
            clear hB4 hR4 hZ4 hB5 hV4
            go_wp2_with fail
            rw [← HV4.out]
            refine (BL.out _ _ HZ.out).mono ?_
            rintro e w9 ⟨rfl, rfl⟩
            rw [HQQ.out]
            have S1 := AS.out V4 q hq2 HZ.out
            have S2 := AP.out V4 q hq2 HZ.out
            rcases hsp with u1 | ⟨u1, u2⟩
            · rw [u1.out] at S1
              have S1 := Lib.hid S1
              go_wp2_with fail
              refine S1.out.mono ?_
              rintro e w9 ⟨rfl, rfl⟩
              go_wp2_with fail
              refine (EX.out _ HZ.out).mono ?_
              rintro e w6 ⟨rfl, hB6⟩
              have hR6 := HRV.out.below hB6
              have hH6 := HHV.out.below hB6
              have hZ6 := HZ.out.trans (hB6.mono HZ.out.size)
              have hl6 : w4.heap.size < w6.heap.size := hH6.lt
              have g2 : ¬ w4.heap.size = w6.heap.size := by omega
              have g3 : ¬ w6.heap.size = w4.heap.size := by omega
              have g4 : ¬ w.heap.size = w6.heap.size := by have := HG.out; omega
              have g5 : ¬ w6.heap.size = w.heap.size := by have := HG.out; omega
              have h06 : w.heap.size ≤ w6.heap.size := by have := HG.out; omega
              obtain ⟨V6, hV6⟩ : ∃ V6, V6 = w6.alloc (.cells #[.string (strOfNums x1), .string (strOfNums x2)] 25) := ⟨_, rfl⟩
              have hB7 : Below w6.heap.size w6 V6 := by rw [hV6]; exact (Below.refl _ _).alloc (Nat.le_refl _) _
              have hR7 := hR6.below hB7
              have hH7 := hH6.below hB7
              have hZ7 := hZ6.trans (hB7.mono h06)
              have HV6 := Lib.hid hV6
              clear hB6 HZ HRV HHV hR6 hH6 hZ6 hl6 hB7 hV6
              go_upto_region 15 with (fail)
              rw [← HV6.out]
              have HZ := Lib.hid hZ7
              obtain ⟨r0, r1, r2, r3, r4, r5, s0, s1, s2, s3, s4, s5⟩ := hR7.cells
              clear hR7 hH7 hZ7
              go_wp2
              refine bodyPost_ret (v := .tuple #[.agg #[.bool false, .string ⟨#[]⟩, .string ⟨#[]⟩, .string ⟨#[]⟩, .bool false, .bool false], .int .i64 0, .int .i64 x4]) (by simp [results, Tryd.results7, go_sem, r0, r1, r2, r3, r4, r5, s0, s1, s2, s3, s4, s5]) rfl ?_
              rw [HQ.out]
              refine ⟨rfl, ?_⟩
              repeat refine Below.setCell ?_ (by first | exact Nat.le_refl _) _
              exact HZ.out
            · rw [u1.out] at S1
              rw [u2.out] at S2
              have S1 := Lib.hid S1
              have S2 := Lib.hid S2
              go_wp2_with fail
              refine S1.out.mono ?_
              rintro e w9 ⟨rfl, rfl⟩
              go_wp2_with fail
              refine S2.out.mono ?_
              rintro e w9 ⟨rfl, rfl⟩
              go_wp2_with fail
              refine (EX.out _ HZ.out).mono ?_
              rintro e w6 ⟨rfl, hB6⟩
              have hR6 := HRV.out.below hB6
              have hH6 := HHV.out.below hB6
              have hZ6 := HZ.out.trans (hB6.mono HZ.out.size)
              have hl6 : w4.heap.size < w6.heap.size := hH6.lt
              have g2 : ¬ w4.heap.size = w6.heap.size := by omega
              have g3 : ¬ w6.heap.size = w4.heap.size := by omega
              have g4 : ¬ w.heap.size = w6.heap.size := by have := HG.out; omega
              have g5 : ¬ w6.heap.size = w.heap.size := by have := HG.out; omega
              have h06 : w.heap.size ≤ w6.heap.size := by have := HG.out; omega
              obtain ⟨V6, hV6⟩ : ∃ V6, V6 = w6.alloc (.cells #[.string (strOfNums x1), .string (strOfNums x2)] 25) := ⟨_, rfl⟩
              have hB7 : Below w6.heap.size w6 V6 := by rw [hV6]; exact (Below.refl _ _).alloc (Nat.le_refl _) _
              have hR7 := hR6.below hB7
              have hH7 := hH6.below hB7
              have hZ7 := hZ6.trans (hB7.mono h06)
              have HV6 := Lib.hid hV6
              clear hB6 HZ HRV HHV hR6 hH6 hZ6 hl6 hB7 hV6
              go_upto_region 15 with (fail)
              rw [← HV6.out]
              have HZ := Lib.hid hZ7
              obtain ⟨r0, r1, r2, r3, r4, r5, s0, s1, s2, s3, s4, s5⟩ := hR7.cells
              clear hR7 hH7 hZ7
              go_wp2
              refine bodyPost_ret (v := .tuple #[.agg #[.bool false, .string ⟨#[]⟩, .string ⟨#[]⟩, .string ⟨#[]⟩, .bool false, .bool false], .int .i64 0, .int .i64 x4]) (by simp [results, Tryd.results7, go_sem, r0, r1, r2, r3, r4, r5, s0, s1, s2, s3, s4, s5]) rfl ?_
              rw [HQ.out]
              refine ⟨rfl, ?_⟩
              repeat refine Below.setCell ?_ (by first | exact Nat.le_refl _) _
              exact HZ.out
        · have HT := Lib.hid (HY1.out.trans (docName_no2 xs n1 j q HQQ.out (by rintro ⟨h1, h2⟩; rcases hno with h | ⟨-, h3, h4⟩; exact h h1; rcases h2 with h2 | h2; rw [h3.out] at h2; cases h2; rw [h4.out] at h2; cases h2)))
          clear HY1
          have HJ := Lib.hid hjn
          go_enter Tryd.func7, Tryd.ntmps7
          go_wp2_with fail
          rw [← HV1.out]
          refine A1.out.mono ?_
          rintro e w1 ⟨rfl, rfl⟩
          go_wp2_with fail
          refine EB.out.mono ?_
          rintro e w1 ⟨rfl, rfl⟩
          go_wp2_with fail
          refine NM.out.mono ?_
          rintro e w4 ⟨rfl, hB4⟩
          have hR4 := HR1.out.below hB4
          have hZ4 := HB1.out.trans (hB4.mono HB1.out.size)
          have hgt : w.heap.size < w4.heap.size := by have h1 := hB4.size; have h2 := HZ1.out; omega
          have g0 : ¬ w.heap.size = w4.heap.size := by omega
          have g1 : ¬ w4.heap.size = w.heap.size := by omega
          have HG := Lib.hid (Nat.le_of_lt hgt)
          clear hgt
          obtain ⟨V4, hV4⟩ : ∃ V4, V4 = w4.alloc (.cells #[.bool true, .string (strOfNums n1), .string ⟨#[]⟩, .string ⟨#[]⟩, .bool false, .bool false] 31) := ⟨_, rfl⟩
          have hB5 : Below w4.heap.size w4 V4 := by rw [hV4]; exact (Below.refl _ _).alloc (Nat.le_refl _) _
          have HZ := Lib.hid (hZ4.trans (hB5.mono HG.out))
          have HRV := Lib.hid (hR4.below hB5)
          have HHV : Hid (HdBlk 31 w4.heap.size true (strOfNums n1) ⟨#[]⟩ ⟨#[]⟩ false false V4) := by show HdBlk _ _ _ _ _ _ _ _ _; rw [hV4]; exact HdBlk.made _ _ _ _ _ _ _ _
          have HV4 := Lib.hid hV4
          clear hB4 hR4 hZ4 hB5 hV4
          go_wp2_with fail
          rw [← HV4.out]
          refine (BL.out _ _ HZ.out).mono ?_
          rintro e w9 ⟨rfl, rfl⟩
          rw [HQQ.out]
          rcases hno with hjq | ⟨hjq, u1, u2⟩
          · have d0 : decide ((j : Int) < (q : Int)) = false := by simp; omega
            go_wp2_with fail
            refine (BL.out _ _ HZ.out).mono ?_
            rintro e w9 ⟨rfl, rfl⟩
            obtain ⟨jn, hjn, hj1, hj2⟩ := blankZ_nat xs j (by rw [HL.out]; exact HJ.out)
            rw [hjn]
            rw [HL.out] at hj2
            have HJN := Lib.hid hjn
            clear hjn
            have c0 : (0 : Int) ≤ (jn : Int) := by omega
            have O1 := Lib.hid (AO.out _ jn hj2 HZ.out)
            have O2 := Lib.hid (AC.out _ jn hj2 HZ.out)
            by_cases h91 : atN xs jn [91] = true
            · have HQ := Lib.hid (HT.out.trans (docTail_open _ _ _ _ _ _ _ HJN.out h91))
              rw [h91] at O1
              have O1 := Lib.hid O1.out
              clear h91
              obtain ⟨r0, r1, r2, r3, r4, r5, s0, s1, s2, s3, s4, s5⟩ := HRV.out.cells
              obtain ⟨k0, k1, k2, k3, k4, k5, l0, l1, l2, l3, l4, l5⟩ := HHV.out.cells
              go_wp2_with fail
              refine O1.out.mono ?_
              rintro e w9 ⟨rfl, rfl⟩
              go_wp2
              refine bodyPost_ret (v := .tuple #[.agg #[.bool true, .string (strOfNums n1), .string ⟨#[]⟩, .string ⟨#[]⟩, .bool false, .bool true], .int .i64 ((jn : Int) + 1), .int .i64 0]) (by simp [results, Tryd.results7, go_sem, r0, r1, r2, r3, r4, r5, s0, s1, s2, s3, s4, s5, k0, k1, k2, k3, k4, k5, l0, l1, l2, l3, l4, l5]) rfl ?_
              rw [HQ.out]
              refine ⟨rfl, ?_⟩
              repeat refine Below.setCell ?_ (by first | exact Nat.le_refl _ | exact HG.out) _
              exact HZ.out
            · have g91 : atN xs jn [91] = false := by simpa using h91
              rw [g91] at O1
              have O1 := Lib.hid O1.out
              by_cases h62 : atN xs jn [62] = true
              · have HQ := Lib.hid (HT.out.trans (docTail_shut _ _ _ _ _ _ _ HJN.out g91 h62))
                rw [h62] at O2
                have O2 := Lib.hid O2.out
                clear h91 g91 h62
                obtain ⟨r0, r1, r2, r3, r4, r5, s0, s1, s2, s3, s4, s5⟩ := HRV.out.cells
                obtain ⟨k0, k1, k2, k3, k4, k5, l0, l1, l2, l3, l4, l5⟩ := HHV.out.cells
                go_wp2_with fail
                refine O1.out.mono ?_
                rintro e w9 ⟨rfl, rfl⟩
                go_wp2_with fail
                refine O2.out.mono ?_
                rintro e w9 ⟨rfl, rfl⟩
                go_wp2
                refine bodyPost_ret (v := .tuple #[.agg #[.bool true, .string (strOfNums n1), .string ⟨#[]⟩, .string ⟨#[]⟩, .bool false, .bool false], .int .i64 ((jn : Int) + 1), .int .i64 0]) (by simp [results, Tryd.results7, go_sem, r0, r1, r2, r3, r4, r5, s0, s1, s2, s3, s4, s5, k0, k1, k2, k3, k4, k5, l0, l1, l2, l3, l4, l5]) rfl ?_
                rw [HQ.out]
                refine ⟨rfl, ?_⟩
                repeat refine Below.setCell ?_ (by first | exact Nat.le_refl _ | exact HG.out) _
                exact HZ.out
              · have g62 : atN xs jn [62] = false := by simpa using h62
                have HQ := Lib.hid (HT.out.trans (docTail_none _ _ _ _ _ _ _ HJN.out g91 g62))
                rw [g62] at O2
                have O2 := Lib.hid O2.out
                clear h91 g91 h62 g62
                obtain ⟨r0, r1, r2, r3, r4, r5, s0, s1, s2, s3, s4, s5⟩ := HRV.out.cells
                go_wp2_with fail
                refine O1.out.mono ?_
                rintro e w9 ⟨rfl, rfl⟩
                go_wp2_with fail
                refine O2.out.mono ?_
                rintro e w9 ⟨rfl, rfl⟩
                go_wp2
                refine bodyPost_ret (v := .tuple #[.agg #[.bool false, .string ⟨#[]⟩, .string ⟨#[]⟩, .string ⟨#[]⟩, .bool false, .bool false], .int .i64 0, .int .i64 7]) (by simp [results, Tryd.results7, go_sem, r0, r1, r2, r3, r4, r5, s0, s1, s2, s3, s4, s5]) rfl ?_
                rw [HQ.out]
                refine ⟨rfl, ?_⟩
                repeat refine Below.setCell ?_ (by first | exact Nat.le_refl _) _
                exact HZ.out
          · have d0 : (j : Int) < (q : Int) := by omega
            have S1 := AS.out V4 q hq2 HZ.out
            have S2 := AP.out V4 q hq2 HZ.out
            rw [u1.out] at S1
            rw [u2.out] at S2
            have S1 := Lib.hid S1
            have S2 := Lib.hid S2
            go_wp2_with fail
            refine S1.out.mono ?_
            rintro e w9 ⟨rfl, rfl⟩
            go_wp2_with fail
            refine S2.out.mono ?_
            rintro e w9 ⟨rfl, rfl⟩
            go_wp2_with fail
            refine (BL.out _ _ HZ.out).mono ?_
            rintro e w9 ⟨rfl, rfl⟩
            obtain ⟨jn, hjn, hj1, hj2⟩ := blankZ_nat xs j (by rw [HL.out]; exact HJ.out)
            rw [hjn]
            rw [HL.out] at hj2
            have HJN := Lib.hid hjn
            clear hjn
            have c0 : (0 : Int) ≤ (jn : Int) := by omega
            have O1 := Lib.hid (AO.out _ jn hj2 HZ.out)
            have O2 := Lib.hid (AC.out _ jn hj2 HZ.out)
            by_cases h91 : atN xs jn [91] = true
            · have HQ := Lib.hid (HT.out.trans (docTail_open _ _ _ _ _ _ _ HJN.out h91))
              rw [h91] at O1
              have O1 := Lib.hid O1.out
              clear h91
              obtain ⟨r0, r1, r2, r3, r4, r5, s0, s1, s2, s3, s4, s5⟩ := HRV.out.cells
              obtain ⟨k0, k1, k2, k3, k4, k5, l0, l1, l2, l3, l4, l5⟩ := HHV.out.cells
              go_wp2_with fail
              refine O1.out.mono ?_
              rintro e w9 ⟨rfl, rfl⟩
              go_wp2
              refine bodyPost_ret (v := .tuple #[.agg #[.bool true, .string (strOfNums n1), .string ⟨#[]⟩, .string ⟨#[]⟩, .bool false, .bool true], .int .i64 ((jn : Int) + 1), .int .i64 0]) (by simp [results, Tryd.results7, go_sem, r0, r1, r2, r3, r4, r5, s0, s1, s2, s3, s4, s5, k0, k1, k2, k3, k4, k5, l0, l1, l2, l3, l4, l5]) rfl ?_
              rw [HQ.out]
              refine ⟨rfl, ?_⟩
              repeat refine Below.setCell ?_ (by first | exact Nat.le_refl _ | exact HG.out) _
              exact HZ.out
            · have g91 : atN xs jn [91] = false := by simpa using h91
              rw [g91] at O1
              have O1 := Lib.hid O1.out
              by_cases h62 : atN xs jn [62] = true
              · have HQ := Lib.hid (HT.out.trans (docTail_shut _ _ _ _ _ _ _ HJN.out g91 h62))
                rw [h62] at O2
                have O2 := Lib.hid O2.out
                clear h91 g91 h62
                obtain ⟨r0, r1, r2, r3, r4, r5, s0, s1, s2, s3, s4, s5⟩ := HRV.out.cells
                obtain ⟨k0, k1, k2, k3, k4, k5, l0, l1, l2, l3, l4, l5⟩ := HHV.out.cells
                go_wp2_with fail
                refine O1.out.mono ?_
                rintro e w9 ⟨rfl, rfl⟩
                go_wp2_with fail
                refine O2.out.mono ?_
                rintro e w9 ⟨rfl, rfl⟩
                go_wp2
                refine bodyPost_ret (v := .tuple #[.agg #[.bool true, .string (strOfNums n1), .string ⟨#[]⟩, .string ⟨#[]⟩, .bool false, .bool false], .int .i64 ((jn : Int) + 1), .int .i64 0]) (by simp [results, Tryd.results7, go_sem, r0, r1, r2, r3, r4, r5, s0, s1, s2, s3, s4, s5, k0, k1, k2, k3, k4, k5, l0, l1, l2, l3, l4, l5]) rfl ?_
                rw [HQ.out]
                refine ⟨rfl, ?_⟩
                repeat refine Below.setCell ?_ (by first | exact Nat.le_refl _ | exact HG.out) _
                exact HZ.out
              · have g62 : atN xs jn [62] = false := by simpa using h62
                have HQ := Lib.hid (HT.out.trans (docTail_none _ _ _ _ _ _ _ HJN.out g91 g62))
                rw [g62] at O2
                have O2 := Lib.hid O2.out
                clear h91 g91 h62 g62
                obtain ⟨r0, r1, r2, r3, r4, r5, s0, s1, s2, s3, s4, s5⟩ := HRV.out.cells
                go_wp2_with fail
                refine O1.out.mono ?_
                rintro e w9 ⟨rfl, rfl⟩
                go_wp2_with fail
                refine O2.out.mono ?_
                rintro e w9 ⟨rfl, rfl⟩
                go_wp2
                refine bodyPost_ret (v := .tuple #[.agg #[.bool false, .string ⟨#[]⟩, .string ⟨#[]⟩, .string ⟨#[]⟩, .bool false, .bool false], .int .i64 0, .int .i64 7]) (by simp [results, Tryd.results7, go_sem, r0, r1, r2, r3, r4, r5, s0, s1, s2, s3, s4, s5]) rfl ?_
                rw [HQ.out]
                refine ⟨rfl, ?_⟩
                repeat refine Below.setCell ?_ (by first | exact Nat.le_refl _) _
                exact HZ.out
      · have HQ : Hid (r = docZ 0 n3) := by show _ = _; rw [HY1.out]; unfold docName; rw [if_neg hn3]
        have t3 : (n3 == 0) = false := by simpa using hn3
        have t4 : (n3 != 0) = true := by simpa using hn3
        clear hn3 hnx HY1
        go_enter Tryd.func7, Tryd.ntmps7
        go_wp2_with fail
        rw [← HV1.out]
        refine A1.out.mono ?_
        rintro e w1 ⟨rfl, rfl⟩
        go_wp2_with fail
        refine EB.out.mono ?_
        rintro e w1 ⟨rfl, rfl⟩
        go_wp2_with fail
        refine NM.out.mono ?_
        rintro e w4 ⟨rfl, hB4⟩
        have hR4 := HR1.out.below hB4
        have hZ4 := HB1.out.trans (hB4.mono HB1.out.size)
        have hgt : w.heap.size < w4.heap.size := by have h1 := hB4.size; have h2 := HZ1.out; omega
        have g0 : ¬ w.heap.size = w4.heap.size := by omega
        have g1 : ¬ w4.heap.size = w.heap.size := by omega
        have HG := Lib.hid (Nat.le_of_lt hgt)
        clear hgt
        obtain ⟨r0, r1, r2, r3, r4, r5, s0, s1, s2, s3, s4, s5⟩ := hR4.cells
        have HZ := Lib.hid hZ4
        clear hB4 hR4 hZ4
        go_wp2
        refine bodyPost_ret (v := .tuple #[.agg #[.bool false, .string ⟨#[]⟩, .string ⟨#[]⟩, .string ⟨#[]⟩, .bool false, .bool false], .int .i64 0, .int .i64 n3]) (by simp [results, Tryd.results7, go_sem, r0, r1, r2, r3, r4, r5, s0, s1, s2, s3, s4, s5]) rfl ?_
        rw [HQ.out]
        refine ⟨rfl, ?_⟩
        repeat refine Below.setCell ?_ (by first | exact Nat.le_refl _) _
        exact HZ.out
set_option maxRecDepth 100000 in
set_option maxHeartbeats 1000000 in
theorem rdoc_any (A : Option Addr) (n cp : Nat) (at_ : Int) (xs : List Int) (w : World) (hn : n ≤ 1048576) (hcp : n ≤ cp) (hcp2 : cp ≤ 9223372036854775807) (hb : BytesAt w A n xs) :
    Calls Tryd.prog 7 #[.slice A n cp, .int .i64 at_] w (TellDoc (docN xs at_) w) := by
  by_cases h : at_ < 0 ∨ (n : Int) < at_
  · have HQ : Hid (docN xs at_ = docZ 0 3) := by show _ = _; unfold docN; rw [if_pos (by rw [hb.1]; exact h)]
    generalize docN xs at_ = r at HQ ⊢
    clear hb
    by_cases h0 : at_ < 0
    · clear h
      go_enter Tryd.func7, Tryd.ntmps7
      go_wp2
      refine bodyPost_ret (v := .tuple #[.agg #[.bool false, .string ⟨#[]⟩, .string ⟨#[]⟩, .string ⟨#[]⟩, .bool false, .bool false], .int .i64 0, .int .i64 3]) (by simp [results, Tryd.results7, go_sem]) rfl ?_
      rw [HQ.out]
      exact ⟨rfl, (Below.refl _ _).alloc (Nat.le_refl _) _⟩
    · have h1 : (n : Int) < at_ := by omega
      clear h
      go_enter Tryd.func7, Tryd.ntmps7
      go_wp2
      refine bodyPost_ret (v := .tuple #[.agg #[.bool false, .string ⟨#[]⟩, .string ⟨#[]⟩, .string ⟨#[]⟩, .bool false, .bool false], .int .i64 0, .int .i64 3]) (by simp [results, Tryd.results7, go_sem]) rfl ?_
      rw [HQ.out]
      exact ⟨rfl, (Below.refl _ _).alloc (Nat.le_refl _) _⟩
  · obtain ⟨i, rfl⟩ : ∃ i : Nat, at_ = i := ⟨at_.toNat, by omega⟩
    exact rdoc_in A n cp i xs w hn hcp hcp2 (by omega) hb
end Go.Proofs.YtbklopnpehafpaaDoor
