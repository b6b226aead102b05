/- The contract of extid.Doctype. Conditions: at most 2^20 bytes; the tables of chars and of utf hold what the text gives them. Printed by gen-extdoc.py. -/
import Derived.Test.YtbklopnpehafpaaDoorExtDocPlain
namespace Go.Proofs.YtbklopnpehafpaaDoor
open Go.RowKit Go.Proofs.YtbklopnpehafpaaDoor.UtfPlain Go.Proofs.YtbklopnpehafpaaDoor.NamePlain Go.Proofs.YtbklopnpehafpaaDoor.CharsPlain
set_option linter.unusedVariables false
set_option linter.unusedSimpArgs false
theorem docTail_end (xs nm pub sys : List Int) (out : Bool) (j : Int) (k : Nat) (hk : blankZ xs j = k) (h : xs.length ≤ k) : docTail xs nm pub sys out j = docZ 0 7 := by
  unfold docTail
  rw [hk, Int.toNat_natCast, atN_one, atN_one, List.getElem?_eq_none h]
  rfl
theorem docTail_at (xs nm pub sys : List Int) (out : Bool) (j : Int) (k : Nat) (y : Int) (hk : blankZ xs j = k) (h : xs[k]? = some y) :
    docTail xs nm pub sys out j = if y = 91 then ⟨true, nm, pub, sys, out, true, (k : Int) + 1, 0⟩ else if y = 62 then ⟨true, nm, pub, sys, out, false, (k : Int) + 1, 0⟩ else docZ 0 7 := by
  unfold docTail
  rw [hk, Int.toNat_natCast, atN_one, atN_one, h]
  simp only [Option.some.injEq, decide_eq_true_eq]
theorem docName_id (xs : List Int) (nm : List Int) (j k : Nat) (y : Int) (hk : blankZ xs j = k) (h1 : j < k) (h : xs[k]? = some y) (hy : y = 83 ∨ y = 80) : docName xs (nm, (j : Int), 0) = docId xs nm (extN xs k) := by
  unfold docName
  rw [if_pos rfl]
  dsimp only
  rw [hk, Int.toNat_natCast, atN_one, atN_one, h, if_pos]
  refine ⟨by omega, ?_⟩
  rcases hy with rfl | rfl
  · left; rfl
  · right; rfl
theorem docName_no (xs : List Int) (nm : List Int) (j k : Nat) (hk : blankZ xs j = k) (h : ¬ (j < k ∧ ∃ y, xs[k]? = some y ∧ (y = 83 ∨ y = 80))) : docName xs (nm, (j : Int), 0) = docTail xs nm [] [] false j := by
  unfold docName
  rw [if_pos rfl]
  dsimp only
  rw [hk, Int.toNat_natCast, atN_one, atN_one, if_neg]
  rintro ⟨h1, h2⟩
  apply h
  refine ⟨by omega, ?_⟩
  rcases h2 with h2 | h2
  · exact ⟨83, by simpa using h2, .inl rfl⟩
  · exact ⟨80, by simpa using h2, .inr rfl⟩
theorem bytesAt_look {w : World} {A : Option Addr} {n : Nat} {xs : List Int} (hb : BytesAt w A n xs) {k : Nat} (hk : k < n) : ∃ a y, A = some a ∧ xs[k]? = some y ∧ 0 ≤ y ∧ y ≤ 255 ∧ w.cell? (a.add k) = some (.int .u8 y) := by
  obtain ⟨a, y, h1, h2, h3, h4, _, h5⟩ := hb.2 k hk
  exact ⟨a, y, h1, h2, h3, h4, h5⟩
set_option maxRecDepth 100000 in
set_option maxHeartbeats 16000000 in
theorem doc_in (A : Option Addr) (n cp i : Nat) (xs : List Int) (w : World) (hn : n ≤ 1048576) (hcp : n ≤ cp) (hcp2 : cp ≤ 9223372036854775807) (hi : i ≤ n) (hb : BytesAt w A n xs) (hf : FormsAt w) (ht : Tabs w) :
    Calls Tryd.prog 6 #[.slice A n cp, .int .i64 i] w (TellDoc (docN xs i) w) := by
  have b0 : (0 : Int) ≤ (i : Int) := by omega
  have b1 : ¬ (n : Int) < (i : Int) := by omega
  have b2 : i ≤ cp := by omega
  have kc := fun (C : Array Value) (n c : Nat) => Go.Joins.run_convert_bytes_const_at (P := Tryd.prog) (w.alloc (.cells #[.bool false, .string ⟨#[]⟩, .string ⟨#[]⟩, .string ⟨#[]⟩, .bool false, .bool false] 27)) 22 5 C n c (w.heap.size + 1) (by simp) Tryd.underlying22 Tryd.underlying5
  obtain ⟨W1, hW1⟩ : ∃ W1, W1 = w.alloc (.cells #[.bool false, .string ⟨#[]⟩, .string ⟨#[]⟩, .string ⟨#[]⟩, .bool false, .bool false] 27) := ⟨_, rfl⟩
  have hB1 : Below w.heap.size w W1 := by rw [hW1]; exact (Below.refl _ _).alloc (Nat.le_refl _) _
  have hz1 : W1.heap.size = w.heap.size + 1 := by rw [hW1, World.alloc]; simp
  have hR1 : HdBlk 27 w.heap.size false ⟨#[]⟩ ⟨#[]⟩ ⟨#[]⟩ false false W1 := by rw [hW1]; exact HdBlk.made _ _ _ _ _ _ _ _
  have P1 := fun p c => hasPre_lit p (n - i) c (xs.drop i) markB W1 (9, 10)
  obtain ⟨W2, hW2⟩ : ∃ W2, W2 = W1.alloc (.cells (byteCells markB).toArray 5 (9, 10)) := ⟨_, rfl⟩
  have hB12 : Below W1.heap.size W1 W2 := by rw [hW2]; exact (Below.refl _ _).alloc (Nat.le_refl _) _
  have hB2 : Below w.heap.size w W2 := hB1.trans (hB12.mono hB1.size)
  have hg : w.heap.size < W2.heap.size := by have := hB12.size; omega
  have hR2 := hR1.below hB12
  obtain ⟨W3, hW3⟩ : ∃ W3, W3 = W2.alloc (.cells #[.bool true, .string ⟨#[]⟩, .string ⟨#[]⟩, .string ⟨#[]⟩, .bool false, .bool false] 27) := ⟨_, rfl⟩
  have hB23 : Below W2.heap.size W2 W3 := by rw [hW3]; exact (Below.refl _ _).alloc (Nat.le_refl _) _
  have hB3 : Below w.heap.size w W3 := hB2.trans (hB23.mono hB2.size)
  have hR3 := hR2.below hB23
  have hH3 : HdBlk 27 W2.heap.size true ⟨#[]⟩ ⟨#[]⟩ ⟨#[]⟩ false false W3 := by rw [hW3]; exact HdBlk.made _ _ _ _ _ _ _ _
  rw [← hW2, hz1] at P1
  have EB := fun V (hV : Below w.heap.size w V) => eblanks_any A n cp ((i : Int) + 9) xs V (by omega) (hb.below hV)
  have BL := fun V j (hV : Below w.heap.size w V) => blanks_any A n cp j xs V (by omega) (hb.below hV)
  have NM := fun V j (hV : Below w.heap.size w V) => nameAt_any A n cp j xs V (by omega) hcp hcp2 (hb.below hV) (hf.below hV hf.size) (ht.below hV ht.size)
  have EX := fun V j (hV : Below w.heap.size w V) => ext_any A n cp j xs V hn hcp hcp2 (hb.below hV) (hf.below hV hf.size) (ht.below hV ht.size)
  obtain ⟨r, hr⟩ : ∃ r, r = docN xs i := ⟨_, rfl⟩
  rw [← hr]
  unfold docN at hr
  rw [if_neg (by rw [hb.1]; omega), Int.toNat_natCast] at hr
  have hD := bytesAt_drop (hb.below hB1) hi
  have hE : cp = i → BytesAt W1 A (n - i) (xs.drop i) := fun h => by
    obtain rfl : n = i := by omega
    refine ⟨by rw [List.length_drop, hb.1], fun k hk => by omega⟩
  have hs0 : markB.isPrefixOf (xs.drop i) = atN xs i markB := rfl
  simp only [hs0] at P1
  generalize atN xs i markB = s at P1 hr
  clear hs0
  have KC : (cp = i ∧ Hid (Calls Tryd.prog 11 #[.slice A 0 0, .slice (some ⟨w.heap.size + 1, 0, none⟩) 9 9] W2 (RetB s W2))) ∨ (¬ cp = i ∧ Hid (Calls Tryd.prog 11 #[.slice (Option.map (fun x => x.add i) A) (n - i) (cp - i), .slice (some ⟨w.heap.size + 1, 0, none⟩) 9 9] W2 (RetB s W2))) := by
    by_cases hc : cp = i
    · have h1 := P1 A (n - i) (Nat.le_refl _) (hE hc) (by decide) 9
      rw [show n - i = 0 by omega] at h1
      exact .inl ⟨hc, h1⟩
    · exact .inr ⟨hc, P1 _ _ (by omega) hD (by decide) 9⟩
  have HBX := Lib.hid hb
  have HR := Lib.hid hr
  have HG := Lib.hid (Nat.le_of_lt hg)
  have hgne : w.heap.size ≠ W2.heap.size := by omega
  have HGN := Lib.hid hgne
  have EB := Lib.hid EB
  have BL := Lib.hid BL
  have NM := Lib.hid NM
  have EX := Lib.hid EX
  have HB2 := Lib.hid hB2
  have HB3 := Lib.hid hB3
  have HR2 := Lib.hid hR2
  have HR3 := Lib.hid hR3
  have HH3 := Lib.hid hH3
  have HV2 : Hid (W2 = (w.alloc (.cells #[.bool false, .string ⟨#[]⟩, .string ⟨#[]⟩, .string ⟨#[]⟩, .bool false, .bool false] 27)).alloc (.cells #[.int .u8 60, .int .u8 33, .int .u8 68, .int .u8 79, .int .u8 67, .int .u8 84, .int .u8 89, .int .u8 80, .int .u8 69] 5 (9, 10))) := by show _ = _; rw [hW2, hW1]; rfl
  have HV3 := Lib.hid hW3
  clear hb hf ht hr hg hgne hB1 hz1 hR1 P1 hB12 hB2 hR2 hB23 hB3 hR3 hH3 hD hE hW1 hW2 hW3
  rcases KC with ⟨hc, KC⟩ | ⟨hc, KC⟩
  all_goals
    (try (have hc2 := hc.symm; subst hc2))
    cases s with
    | false =>
      have HQ : Hid (r = docZ (i : Int) 0) := by show _ = _; rw [HR.out]; rfl
      have HZ := HB2
      obtain ⟨r0, r1, r2, r3, r4, r5, s0, s1, s2, s3, s4, s5⟩ := HR2.out.cells
      have g0 := HGN.out
      have g1 : ¬ W2.heap.size = w.heap.size := fun h => g0 h.symm
      go_enter Tryd.func6, Tryd.ntmps6
      go_wp2_with fail
      rw [← HV2.out]
      refine KC.out.mono ?_
      rintro e w1 ⟨rfl, rfl⟩
      go_wp2
      refine bodyPost_ret (v := .tuple #[.agg #[.bool false, .string ⟨#[]⟩, .string ⟨#[]⟩, .string ⟨#[]⟩, .bool false, .bool false], .int .i64 (i : Int), .int .i64 0]) (by simp [results, Tryd.results6, go_sem, r0, r1, r2, r3, r4, r5, s0, s1, s2, s3, s4, s5]) rfl ?_
      rw [HQ.out]
      refine ⟨rfl, ?_⟩
      repeat refine Below.setCell ?_ (by first | exact Nat.le_refl _ | exact HG.out) _
      exact HZ.out
    | true =>
      have HY0 : Hid (r = if blankZ xs ((i : Int) + 9) = (i : Int) + 9 then docZ 0 7 else docName xs (readN xs false (blankZ xs ((i : Int) + 9)))) := by show _ = _; rw [HR.out]; rfl
      have EB := EB.out W2 HB2.out
      unfold blankP blankE at EB
      by_cases hz : blankZ xs ((i : Int) + 9) = (i : Int) + 9
      · have HQ : Hid (r = docZ 0 7) := by show _ = _; rw [HY0.out, if_pos hz]
        rw [if_pos hz, if_pos hz] at EB
        have EB := Lib.hid EB
        have HZ := HB2
        clear hz HY0
        obtain ⟨r0, r1, r2, r3, r4, r5, s0, s1, s2, s3, s4, s5⟩ := HR2.out.cells
        have g0 := HGN.out
        have g1 : ¬ W2.heap.size = w.heap.size := fun h => g0 h.symm
        go_enter Tryd.func6, Tryd.ntmps6
        go_wp2_with fail
        rw [← HV2.out]
        refine KC.out.mono ?_
        rintro e w1 ⟨rfl, rfl⟩
        go_wp2_with fail
        refine EB.out.mono ?_
        rintro e w1 ⟨rfl, hw1⟩
        obtain rfl := hw1.symm
        go_wp2
        refine bodyPost_ret (v := .tuple #[.agg #[.bool false, .string ⟨#[]⟩, .string ⟨#[]⟩, .string ⟨#[]⟩, .bool false, .bool false], .int .i64 0, .int .i64 7]) (by simp [results, Tryd.results6, go_sem, r0, r1, r2, r3, r4, r5, s0, s1, s2, s3, s4, s5]) rfl ?_
        rw [HQ.out]
        refine ⟨rfl, ?_⟩
        repeat refine Below.setCell ?_ (by first | exact Nat.le_refl _ | exact HG.out) _
        exact HZ.out
      · have HY1 : Hid (r = docName xs (readN xs false (blankZ xs ((i : Int) + 9)))) := by show _ = _; rw [HY0.out, if_neg hz]
        rw [if_neg hz, if_neg hz] at EB
        generalize blankZ xs ((i : Int) + 9) = z0 at *
        have EB := Lib.hid EB
        clear hz HY0
        have NM := Lib.hid (NM.out W3 z0 HB3.out)
        have hnx := readN_next xs false z0
        generalize readN xs false z0 = nm at NM HY1 hnx
        obtain ⟨n1, n2, n3⟩ := nm
        dsimp only at hnx
        by_cases hn3 : n3 = 0
        · subst hn3
          obtain ⟨j, hj, hjn⟩ := hnx rfl
          subst hj
          rw [HBX.out.1] at hjn
          obtain ⟨q, hq, hq1, hq2⟩ := blankZ_nat xs j (by rw [HBX.out.1]; exact hjn)
          rw [HBX.out.1] at hq2
          have HQQ := Lib.hid hq
          clear hq hnx
          have q0 : (0 : Int) ≤ (q : Int) := by omega
          have KQ : (j < q ∧ q < n ∧ ∃ y, xs[q]? = some y ∧ (y = 83 ∨ y = 80)) ∨ (¬ (j < q ∧ ∃ y, xs[q]? = some y ∧ (y = 83 ∨ y = 80))) := by
            by_cases h : j < q ∧ ∃ y, xs[q]? = some y ∧ (y = 83 ∨ y = 80)
            · obtain ⟨h1, y, h2, h3⟩ := h
              exact .inl ⟨h1, by rw [← HBX.out.1]; exact (List.getElem?_eq_some_iff.1 h2).1, y, h2, h3⟩
            · exact .inr h
          rcases KQ with ⟨hjq, hqn, y, hy, hyv⟩ | hno
          · have HY2 := Lib.hid (HY1.out.trans (docName_id xs n1 j q y HQQ.out hjq hy hyv))
            clear HY1
            have HYQ := Lib.hid hy
            have HYV := Lib.hid hyv
            have d0 : (j : Int) < (q : Int) := by omega
            have d1 : (q : Int) < (n : Int) := by omega
            clear hy hyv
            have EX := Lib.hid (fun V => EX.out V q)
            have hxx := extN_next xs q
            generalize extN xs q = x at EX HY2 hxx
            obtain ⟨x1, x2, x3, x4⟩ := x
            dsimp only at hxx
            by_cases hx4 : x4 = 0
            · subst hx4
              obtain ⟨j2, hj2, hj2n⟩ := hxx rfl
              subst hj2
              rw [HBX.out.1] at hj2n
              have HJ := Lib.hid hj2n
              clear hxx
              have HT : Hid (r = docTail xs n1 x1 x2 true j2) := by show _ = _; rw [HY2.out]; rfl
              clear HY2
              have g0 := HGN.out
              have g1 : ¬ W2.heap.size = w.heap.size := fun h => g0 h.symm
              go_enter Tryd.func6, Tryd.ntmps6
              go_wp2_with fail
              rw [← HV2.out]
              refine KC.out.mono ?_
              rintro e w1 ⟨rfl, rfl⟩
              go_wp2_with fail
              refine EB.out.mono ?_
              rintro e w1 ⟨rfl, hw1⟩
              obtain rfl := hw1.symm
              go_wp2_with fail
              rw [← HV3.out]
              refine NM.out.mono ?_
              rintro e w4 ⟨rfl, hB4⟩
              have hR4 := HR3.out.below hB4
              have hH4 := HH3.out.below hB4
              obtain ⟨r0, r1, r2, r3, r4, r5, s0, s1, s2, s3, s4, s5⟩ := hR4.cells
              obtain ⟨k0, k1, k2, k3, k4, k5, l0, l1, l2, l3, l4, l5⟩ := hH4.cells
              have HZ := Lib.hid ((HB3.out.trans (hB4.mono HB3.out.size)).setCell (p := ⟨W2.heap.size, 1, none⟩) HG.out (.string (strOfNums n1)))
              have HRV := Lib.hid (hR4.other HGN.out 1 (.string (strOfNums n1)))
              have HHV := Lib.hid (hH4.set1 (strOfNums n1))
              clear hB4 hR4 hH4
              go_wp2_with fail
              clear r0 r1 r2 r3 r4 r5 s0 s1 s2 s3 s4 s5 k0 k1 k2 k3 k4 k5 l0 l1 l2 l3 l4 l5
              generalize w4.setCell ⟨W2.heap.size, 1, none⟩ (.string (strOfNums n1)) = V4 at HZ HRV HHV ⊢
              refine (BL.out _ _ HZ.out).mono ?_
              rintro e w9 ⟨rfl, rfl⟩
              rw [HQQ.out]
              obtain ⟨k0, k1, k2, k3, k4, k5, l0, l1, l2, l3, l4, l5⟩ := HHV.out.cells
              obtain ⟨a9, y9, hA9, hy9, -, -, hcy9⟩ := bytesAt_look (HBX.out.below HZ.out) hqn
              have hyy : y9 = y := by have := HYQ.out; rw [hy9] at this; injection this
              subst hyy hA9
              clear hy9
              have TT : ((y9 == 83) = true) ∨ ((y9 == 83) = false ∧ (y9 == 80) = true) := by
                rcases HYV.out with rfl | rfl
                · left; rfl
                · right; exact ⟨rfl, rfl⟩
              have HO := Lib.hid (HZ.out.setCell (p := ⟨W2.heap.size, 4, none⟩) HG.out (.bool true))
              have HRO := Lib.hid (HRV.out.other HGN.out 4 (.bool true))
              have HHO := Lib.hid (HHV.out.set4 true)
              rcases TT with u1 | ⟨u1, u2⟩
              all_goals
                go_wp2_with fail
                refine (EX.out _ HO.out).mono ?_
                rintro e w6 ⟨rfl, hB6⟩
                clear HZ HRV HHV k0 k1 k2 k3 k4 k5 l0 l1 l2 l3 l4 l5
                have hR6 := HRO.out.below hB6
                have hH6 := HHO.out.below hB6
                have hZ6 := HO.out.trans (hB6.mono HO.out.size)
                obtain ⟨r0, r1, r2, r3, r4, r5, s0, s1, s2, s3, s4, s5⟩ := hR6.cells
                obtain ⟨k0, k1, k2, k3, k4, k5, l0, l1, l2, l3, l4, l5⟩ := hH6.cells
                have HZ := Lib.hid ((hZ6.setCell (p := ⟨W2.heap.size, 2, none⟩) HG.out (.string (strOfNums x1))).setCell (p := ⟨W2.heap.size, 3, none⟩) HG.out (.string (strOfNums x2)))
                have HRV := Lib.hid ((hR6.other HGN.out 2 (.string (strOfNums x1))).other HGN.out 3 (.string (strOfNums x2)))
                have HHV := Lib.hid ((hH6.set2 (strOfNums x1)).set3 (strOfNums x2))
                clear hB6 hR6 hH6 hZ6
                go_wp2_with fail
                clear r0 r1 r2 r3 r4 r5 s0 s1 s2 s3 s4 s5 k0 k1 k2 k3 k4 k5 l0 l1 l2 l3 l4 l5
                generalize (w6.setCell ⟨W2.heap.size, 2, none⟩ (.string (strOfNums x1))).setCell ⟨W2.heap.size, 3, none⟩ (.string (strOfNums x2)) = V6 at HZ HRV HHV ⊢
                go_wp2_with fail
                refine (BL.out _ _ HZ.out).mono ?_
                rintro e w9 ⟨rfl, rfl⟩
                obtain ⟨jn, hjn, hj1, hj2⟩ := blankZ_nat xs j2 (by rw [HBX.out.1]; exact HJ.out)
                rw [hjn]
                rw [HBX.out.1] at hj2
                have HJN := Lib.hid hjn
                clear hjn
                have c0 : (0 : Int) ≤ (jn : Int) := by omega
                by_cases hjl : n = jn
                · have HQ : Hid (r = docZ 0 7) := by show _ = _; rw [HT.out]; exact docTail_end _ _ _ _ _ _ _ HJN.out (by rw [HBX.out.1]; omega)
                  have t1 : ((jn : Int) == (n : Int)) = true := by rw [beq_iff_eq]; omega
                  obtain ⟨r0, r1, r2, r3, r4, r5, s0, s1, s2, s3, s4, s5⟩ := HRV.out.cells
                  go_wp2
                  refine bodyPost_ret (v := .tuple #[.agg #[.bool false, .string ⟨#[]⟩, .string ⟨#[]⟩, .string ⟨#[]⟩, .bool false, .bool false], .int .i64 0, .int .i64 7]) (by simp [results, Tryd.results6, go_sem, r0, r1, r2, r3, r4, r5, s0, s1, s2, s3, s4, s5]) rfl ?_
                  rw [HQ.out]
                  refine ⟨rfl, ?_⟩
                  repeat refine Below.setCell ?_ (by first | exact Nat.le_refl _ | exact HG.out) _
                  exact HZ.out
                · have hlt : jn < n := by omega
                  have t1 : ((jn : Int) == (n : Int)) = false := by rw [beq_eq_false_iff_ne]; omega
                  have c1 : (jn : Int) < (n : Int) := by omega
                  obtain ⟨a, y, hA, hy, hy0, hy1, hcy⟩ := bytesAt_look (HBX.out.below HZ.out) hlt
                  cases hA
                  have HT2 := Lib.hid (HT.out.trans (docTail_at _ _ _ _ _ _ _ _ HJN.out hy))
                  clear hy hjl
                  obtain ⟨r0, r1, r2, r3, r4, r5, s0, s1, s2, s3, s4, s5⟩ := HRV.out.cells
                  obtain ⟨k0, k1, k2, k3, k4, k5, l0, l1, l2, l3, l4, l5⟩ := HHV.out.cells
                  by_cases h91 : y = 91
                  · subst h91
                    have HQ : Hid (r = ⟨true, n1, x1, x2, true, true, (jn : Int) + 1, 0⟩) := by show _ = _; rw [HT2.out, if_pos rfl]
                    go_wp2
                    refine bodyPost_ret (v := .tuple #[.agg #[.bool true, .string (strOfNums n1), .string (strOfNums x1), .string (strOfNums x2), .bool true, .bool true], .int .i64 ((jn : Int) + 1), .int .i64 0]) (by simp [results, Tryd.results6, go_sem, r0, r1, r2, r3, r4, r5, s0, s1, s2, s3, s4, s5, k0, k1, k2, k3, k4, k5, l0, l1, l2, l3, l4, l5]) rfl ?_
                    rw [HQ.out]
                    refine ⟨rfl, ?_⟩
                    repeat refine Below.setCell ?_ (by first | exact Nat.le_refl _ | exact HG.out) _
                    exact HZ.out
                  · by_cases h62 : y = 62
                    · subst h62
                      have HQ : Hid (r = ⟨true, n1, x1, x2, true, false, (jn : Int) + 1, 0⟩) := by show _ = _; rw [HT2.out, if_neg h91, if_pos rfl]
                      clear h91
                      go_wp2
                      refine bodyPost_ret (v := .tuple #[.agg #[.bool true, .string (strOfNums n1), .string (strOfNums x1), .string (strOfNums x2), .bool true, .bool false], .int .i64 ((jn : Int) + 1), .int .i64 0]) (by simp [results, Tryd.results6, go_sem, r0, r1, r2, r3, r4, r5, s0, s1, s2, s3, s4, s5, k0, k1, k2, k3, k4, k5, l0, l1, l2, l3, l4, l5]) rfl ?_
                      rw [HQ.out]
                      refine ⟨rfl, ?_⟩
                      repeat refine Below.setCell ?_ (by first | exact Nat.le_refl _ | exact HG.out) _
                      exact HZ.out
                    · have HQ : Hid (r = docZ 0 7) := by show _ = _; rw [HT2.out, if_neg h91, if_neg h62]
                      have t2 : (y == 91) = false := by simpa using h91
                      have t3 : (y == 62) = false := by simpa using h62
                      clear h91 h62
                      go_wp2
                      refine bodyPost_ret (v := .tuple #[.agg #[.bool false, .string ⟨#[]⟩, .string ⟨#[]⟩, .string ⟨#[]⟩, .bool false, .bool false], .int .i64 0, .int .i64 7]) (by simp [results, Tryd.results6, go_sem, r0, r1, r2, r3, r4, r5, s0, s1, s2, s3, s4, s5]) rfl ?_
                      rw [HQ.out]
                      refine ⟨rfl, ?_⟩
                      repeat refine Below.setCell ?_ (by first | exact Nat.le_refl _ | exact HG.out) _
                      exact HZ.out
            · have HQ : Hid (r = docZ 0 x4) := by show _ = _; rw [HY2.out]; unfold docId; rw [if_neg hx4]
              have t3 : (x4 == 0) = false := by simpa using hx4
              have t4 : (x4 != 0) = true := by simpa using hx4
              clear hx4 hxx HY2
              have g0 := HGN.out
              have g1 : ¬ W2.heap.size = w.heap.size := fun h => g0 h.symm
              go_enter Tryd.func6, Tryd.ntmps6
              go_wp2_with fail
              rw [← HV2.out]
              refine KC.out.mono ?_
              rintro e w1 ⟨rfl, rfl⟩
              go_wp2_with fail
              refine EB.out.mono ?_
              rintro e w1 ⟨rfl, hw1⟩
              obtain rfl := hw1.symm
              go_wp2_with fail
              rw [← HV3.out]
              refine NM.out.mono ?_
              rintro e w4 ⟨rfl, hB4⟩
              have hR4 := HR3.out.below hB4
              have hH4 := HH3.out.below hB4
              obtain ⟨r0, r1, r2, r3, r4, r5, s0, s1, s2, s3, s4, s5⟩ := hR4.cells
              obtain ⟨k0, k1, k2, k3, k4, k5, l0, l1, l2, l3, l4, l5⟩ := hH4.cells
              have HZ := Lib.hid ((HB3.out.trans (hB4.mono HB3.out.size)).setCell (p := ⟨W2.heap.size, 1, none⟩) HG.out (.string (strOfNums n1)))
              have HRV := Lib.hid (hR4.other HGN.out 1 (.string (strOfNums n1)))
              have HHV := Lib.hid (hH4.set1 (strOfNums n1))
              clear hB4 hR4 hH4
              go_wp2_with fail
              clear r0 r1 r2 r3 r4 r5 s0 s1 s2 s3 s4 s5 k0 k1 k2 k3 k4 k5 l0 l1 l2 l3 l4 l5
              generalize w4.setCell ⟨W2.heap.size, 1, none⟩ (.string (strOfNums n1)) = V4 at HZ HRV HHV ⊢
              refine (BL.out _ _ HZ.out).mono ?_
              rintro e w9 ⟨rfl, rfl⟩
              rw [HQQ.out]
              obtain ⟨k0, k1, k2, k3, k4, k5, l0, l1, l2, l3, l4, l5⟩ := HHV.out.cells
              obtain ⟨a9, y9, hA9, hy9, -, -, hcy9⟩ := bytesAt_look (HBX.out.below HZ.out) hqn
              have hyy : y9 = y := by have := HYQ.out; rw [hy9] at this; injection this
              subst hyy hA9
              clear hy9
              have TT : ((y9 == 83) = true) ∨ ((y9 == 83) = false ∧ (y9 == 80) = true) := by
                rcases HYV.out with rfl | rfl
                · left; rfl
                · right; exact ⟨rfl, rfl⟩
              have HO := Lib.hid (HZ.out.setCell (p := ⟨W2.heap.size, 4, none⟩) HG.out (.bool true))
              have HRO := Lib.hid (HRV.out.other HGN.out 4 (.bool true))
              have HHO := Lib.hid (HHV.out.set4 true)
              rcases TT with u1 | ⟨u1, u2⟩
              all_goals
                go_wp2_with fail
                refine (EX.out _ HO.out).mono ?_
                rintro e w6 ⟨rfl, hB6⟩
                clear HZ HRV HHV k0 k1 k2 k3 k4 k5 l0 l1 l2 l3 l4 l5
                have hR6 := HRO.out.below hB6
                have hH6 := HHO.out.below hB6
                have hZ6 := HO.out.trans (hB6.mono HO.out.size)
                obtain ⟨r0, r1, r2, r3, r4, r5, s0, s1, s2, s3, s4, s5⟩ := hR6.cells
                obtain ⟨k0, k1, k2, k3, k4, k5, l0, l1, l2, l3, l4, l5⟩ := hH6.cells
                have HZ := Lib.hid hZ6
                clear hB6 hR6 hH6 hZ6
                go_wp2
                refine bodyPost_ret (v := .tuple #[.agg #[.bool false, .string ⟨#[]⟩, .string ⟨#[]⟩, .string ⟨#[]⟩, .bool false, .bool false], .int .i64 0, .int .i64 x4]) (by simp [results, Tryd.results6, go_sem, r0, r1, r2, r3, r4, r5, s0, s1, s2, s3, s4, s5]) rfl ?_
                rw [HQ.out]
                refine ⟨rfl, ?_⟩
                repeat refine Below.setCell ?_ (by first | exact Nat.le_refl _ | exact HG.out) _
                exact HZ.out
          · have HT := Lib.hid (HY1.out.trans (docName_no xs n1 j q HQQ.out hno))
            clear HY1
            have HJ := Lib.hid hjn
            have NO := Lib.hid hno
            clear hno
            have g0 := HGN.out
            have g1 : ¬ W2.heap.size = w.heap.size := fun h => g0 h.symm
            go_enter Tryd.func6, Tryd.ntmps6
            go_wp2_with fail
            rw [← HV2.out]
            refine KC.out.mono ?_
            rintro e w1 ⟨rfl, rfl⟩
            go_wp2_with fail
            refine EB.out.mono ?_
            rintro e w1 ⟨rfl, hw1⟩
            obtain rfl := hw1.symm
            go_wp2_with fail
            rw [← HV3.out]
            refine NM.out.mono ?_
            rintro e w4 ⟨rfl, hB4⟩
            have hR4 := HR3.out.below hB4
            have hH4 := HH3.out.below hB4
            obtain ⟨r0, r1, r2, r3, r4, r5, s0, s1, s2, s3, s4, s5⟩ := hR4.cells
            obtain ⟨k0, k1, k2, k3, k4, k5, l0, l1, l2, l3, l4, l5⟩ := hH4.cells
            have HZ := Lib.hid ((HB3.out.trans (hB4.mono HB3.out.size)).setCell (p := ⟨W2.heap.size, 1, none⟩) HG.out (.string (strOfNums n1)))
            have HRV := Lib.hid (hR4.other HGN.out 1 (.string (strOfNums n1)))
            have HHV := Lib.hid (hH4.set1 (strOfNums n1))
            clear hB4 hR4 hH4
            go_wp2_with fail
            clear r0 r1 r2 r3 r4 r5 s0 s1 s2 s3 s4 s5 k0 k1 k2 k3 k4 k5 l0 l1 l2 l3 l4 l5
            generalize w4.setCell ⟨W2.heap.size, 1, none⟩ (.string (strOfNums n1)) = V4 at HZ HRV HHV ⊢
            refine (BL.out _ _ HZ.out).mono ?_
            rintro e w9 ⟨rfl, rfl⟩
            rw [HQQ.out]
            obtain ⟨k0, k1, k2, k3, k4, k5, l0, l1, l2, l3, l4, l5⟩ := HHV.out.cells
            by_cases hjq : j < q
            · by_cases hqn : q < n
              · obtain ⟨a9, y9, hA9, hy9, -, -, hcy9⟩ := bytesAt_look (HBX.out.below HZ.out) hqn
                have u1 : (y9 == 83) = false := by rw [beq_eq_false_iff_ne]; exact fun h => NO.out ⟨hjq, y9, hy9, .inl h⟩
                have u2 : (y9 == 80) = false := by rw [beq_eq_false_iff_ne]; exact fun h => NO.out ⟨hjq, y9, hy9, .inr h⟩
                have d0 : (j : Int) < (q : Int) := by omega
                have d1 : (q : Int) < (n : Int) := by omega
                subst hA9
                clear hy9
                go_wp2_with fail
                refine (BL.out _ _ HZ.out).mono ?_
                rintro e w9 ⟨rfl, rfl⟩
                obtain ⟨jn, hjn, hj1, hj2⟩ := blankZ_nat xs j (by rw [HBX.out.1]; exact HJ.out)
                rw [hjn]
                rw [HBX.out.1] at hj2
                have HJN := Lib.hid hjn
                clear hjn
                have c0 : (0 : Int) ≤ (jn : Int) := by omega
                by_cases hjl : n = jn
                · have HQ : Hid (r = docZ 0 7) := by show _ = _; rw [HT.out]; exact docTail_end _ _ _ _ _ _ _ HJN.out (by rw [HBX.out.1]; omega)
                  have t1 : ((jn : Int) == (n : Int)) = true := by rw [beq_iff_eq]; omega
                  obtain ⟨r0, r1, r2, r3, r4, r5, s0, s1, s2, s3, s4, s5⟩ := HRV.out.cells
                  go_wp2
                  refine bodyPost_ret (v := .tuple #[.agg #[.bool false, .string ⟨#[]⟩, .string ⟨#[]⟩, .string ⟨#[]⟩, .bool false, .bool false], .int .i64 0, .int .i64 7]) (by simp [results, Tryd.results6, go_sem, r0, r1, r2, r3, r4, r5, s0, s1, s2, s3, s4, s5]) rfl ?_
                  rw [HQ.out]
                  refine ⟨rfl, ?_⟩
                  repeat refine Below.setCell ?_ (by first | exact Nat.le_refl _ | exact HG.out) _
                  exact HZ.out
                · have hlt : jn < n := by omega
                  have t1 : ((jn : Int) == (n : Int)) = false := by rw [beq_eq_false_iff_ne]; omega
                  have c1 : (jn : Int) < (n : Int) := by omega
                  obtain ⟨a, y, hA, hy, hy0, hy1, hcy⟩ := bytesAt_look (HBX.out.below HZ.out) hlt
                  cases hA
                  have HT2 := Lib.hid (HT.out.trans (docTail_at _ _ _ _ _ _ _ _ HJN.out hy))
                  clear hy hjl
                  obtain ⟨r0, r1, r2, r3, r4, r5, s0, s1, s2, s3, s4, s5⟩ := HRV.out.cells
                  obtain ⟨k0, k1, k2, k3, k4, k5, l0, l1, l2, l3, l4, l5⟩ := HHV.out.cells
                  by_cases h91 : y = 91
                  · subst h91
                    have HQ : Hid (r = ⟨true, n1, [], [], false, true, (jn : Int) + 1, 0⟩) := by show _ = _; rw [HT2.out, if_pos rfl]
                    go_wp2
                    refine bodyPost_ret (v := .tuple #[.agg #[.bool true, .string (strOfNums n1), .string ⟨#[]⟩, .string ⟨#[]⟩, .bool false, .bool true], .int .i64 ((jn : Int) + 1), .int .i64 0]) (by simp [results, Tryd.results6, go_sem, r0, r1, r2, r3, r4, r5, s0, s1, s2, s3, s4, s5, k0, k1, k2, k3, k4, k5, l0, l1, l2, l3, l4, l5]) rfl ?_
                    rw [HQ.out]
                    refine ⟨rfl, ?_⟩
                    repeat refine Below.setCell ?_ (by first | exact Nat.le_refl _ | exact HG.out) _
                    exact HZ.out
                  · by_cases h62 : y = 62
                    · subst h62
                      have HQ : Hid (r = ⟨true, n1, [], [], false, false, (jn : Int) + 1, 0⟩) := by show _ = _; rw [HT2.out, if_neg h91, if_pos rfl]
                      clear h91
                      go_wp2
                      refine bodyPost_ret (v := .tuple #[.agg #[.bool true, .string (strOfNums n1), .string ⟨#[]⟩, .string ⟨#[]⟩, .bool false, .bool false], .int .i64 ((jn : Int) + 1), .int .i64 0]) (by simp [results, Tryd.results6, go_sem, r0, r1, r2, r3, r4, r5, s0, s1, s2, s3, s4, s5, k0, k1, k2, k3, k4, k5, l0, l1, l2, l3, l4, l5]) rfl ?_
                      rw [HQ.out]
                      refine ⟨rfl, ?_⟩
                      repeat refine Below.setCell ?_ (by first | exact Nat.le_refl _ | exact HG.out) _
                      exact HZ.out
                    · have HQ : Hid (r = docZ 0 7) := by show _ = _; rw [HT2.out, if_neg h91, if_neg h62]
                      have t2 : (y == 91) = false := by simpa using h91
                      have t3 : (y == 62) = false := by simpa using h62
                      clear h91 h62
                      go_wp2
                      refine bodyPost_ret (v := .tuple #[.agg #[.bool false, .string ⟨#[]⟩, .string ⟨#[]⟩, .string ⟨#[]⟩, .bool false, .bool false], .int .i64 0, .int .i64 7]) (by simp [results, Tryd.results6, go_sem, r0, r1, r2, r3, r4, r5, s0, s1, s2, s3, s4, s5]) rfl ?_
                      rw [HQ.out]
                      refine ⟨rfl, ?_⟩
                      repeat refine Below.setCell ?_ (by first | exact Nat.le_refl _ | exact HG.out) _
                      exact HZ.out
              · have d0 : (j : Int) < (q : Int) := by omega
                have d1 : decide ((q : Int) < (n : Int)) = false := by simp; omega
                go_wp2_with fail
                refine (BL.out _ _ HZ.out).mono ?_
                rintro e w9 ⟨rfl, rfl⟩
                obtain ⟨jn, hjn, hj1, hj2⟩ := blankZ_nat xs j (by rw [HBX.out.1]; exact HJ.out)
                rw [hjn]
                rw [HBX.out.1] at hj2
                have HJN := Lib.hid hjn
                clear hjn
                have c0 : (0 : Int) ≤ (jn : Int) := by omega
                by_cases hjl : n = jn
                · have HQ : Hid (r = docZ 0 7) := by show _ = _; rw [HT.out]; exact docTail_end _ _ _ _ _ _ _ HJN.out (by rw [HBX.out.1]; omega)
                  have t1 : ((jn : Int) == (n : Int)) = true := by rw [beq_iff_eq]; omega
                  obtain ⟨r0, r1, r2, r3, r4, r5, s0, s1, s2, s3, s4, s5⟩ := HRV.out.cells
                  go_wp2
                  refine bodyPost_ret (v := .tuple #[.agg #[.bool false, .string ⟨#[]⟩, .string ⟨#[]⟩, .string ⟨#[]⟩, .bool false, .bool false], .int .i64 0, .int .i64 7]) (by simp [results, Tryd.results6, go_sem, r0, r1, r2, r3, r4, r5, s0, s1, s2, s3, s4, s5]) rfl ?_
                  rw [HQ.out]
                  refine ⟨rfl, ?_⟩
                  repeat refine Below.setCell ?_ (by first | exact Nat.le_refl _ | exact HG.out) _
                  exact HZ.out
                · have hlt : jn < n := by omega
                  have t1 : ((jn : Int) == (n : Int)) = false := by rw [beq_eq_false_iff_ne]; omega
                  have c1 : (jn : Int) < (n : Int) := by omega
                  obtain ⟨a, y, hA, hy, hy0, hy1, hcy⟩ := bytesAt_look (HBX.out.below HZ.out) hlt
                  cases hA
                  have HT2 := Lib.hid (HT.out.trans (docTail_at _ _ _ _ _ _ _ _ HJN.out hy))
                  clear hy hjl
                  obtain ⟨r0, r1, r2, r3, r4, r5, s0, s1, s2, s3, s4, s5⟩ := HRV.out.cells
                  obtain ⟨k0, k1, k2, k3, k4, k5, l0, l1, l2, l3, l4, l5⟩ := HHV.out.cells
                  by_cases h91 : y = 91
                  · subst h91
                    have HQ : Hid (r = ⟨true, n1, [], [], false, true, (jn : Int) + 1, 0⟩) := by show _ = _; rw [HT2.out, if_pos rfl]
                    go_wp2
                    refine bodyPost_ret (v := .tuple #[.agg #[.bool true, .string (strOfNums n1), .string ⟨#[]⟩, .string ⟨#[]⟩, .bool false, .bool true], .int .i64 ((jn : Int) + 1), .int .i64 0]) (by simp [results, Tryd.results6, go_sem, r0, r1, r2, r3, r4, r5, s0, s1, s2, s3, s4, s5, k0, k1, k2, k3, k4, k5, l0, l1, l2, l3, l4, l5]) rfl ?_
                    rw [HQ.out]
                    refine ⟨rfl, ?_⟩
                    repeat refine Below.setCell ?_ (by first | exact Nat.le_refl _ | exact HG.out) _
                    exact HZ.out
                  · by_cases h62 : y = 62
                    · subst h62
                      have HQ : Hid (r = ⟨true, n1, [], [], false, false, (jn : Int) + 1, 0⟩) := by show _ = _; rw [HT2.out, if_neg h91, if_pos rfl]
                      clear h91
                      go_wp2
                      refine bodyPost_ret (v := .tuple #[.agg #[.bool true, .string (strOfNums n1), .string ⟨#[]⟩, .string ⟨#[]⟩, .bool false, .bool false], .int .i64 ((jn : Int) + 1), .int .i64 0]) (by simp [results, Tryd.results6, go_sem, r0, r1, r2, r3, r4, r5, s0, s1, s2, s3, s4, s5, k0, k1, k2, k3, k4, k5, l0, l1, l2, l3, l4, l5]) rfl ?_
                      rw [HQ.out]
                      refine ⟨rfl, ?_⟩
                      repeat refine Below.setCell ?_ (by first | exact Nat.le_refl _ | exact HG.out) _
                      exact HZ.out
                    · have HQ : Hid (r = docZ 0 7) := by show _ = _; rw [HT2.out, if_neg h91, if_neg h62]
                      have t2 : (y == 91) = false := by simpa using h91
                      have t3 : (y == 62) = false := by simpa using h62
                      clear h91 h62
                      go_wp2
                      refine bodyPost_ret (v := .tuple #[.agg #[.bool false, .string ⟨#[]⟩, .string ⟨#[]⟩, .string ⟨#[]⟩, .bool false, .bool false], .int .i64 0, .int .i64 7]) (by simp [results, Tryd.results6, go_sem, r0, r1, r2, r3, r4, r5, s0, s1, s2, s3, s4, s5]) rfl ?_
                      rw [HQ.out]
                      refine ⟨rfl, ?_⟩
                      repeat refine Below.setCell ?_ (by first | exact Nat.le_refl _ | exact HG.out) _
                      exact HZ.out
            · have d0 : decide ((j : Int) < (q : Int)) = false := by simp; omega
              go_wp2_with fail
              refine (BL.out _ _ HZ.out).mono ?_
              rintro e w9 ⟨rfl, rfl⟩
              obtain ⟨jn, hjn, hj1, hj2⟩ := blankZ_nat xs j (by rw [HBX.out.1]; exact HJ.out)
              rw [hjn]
              rw [HBX.out.1] at hj2
              have HJN := Lib.hid hjn
              clear hjn
              have c0 : (0 : Int) ≤ (jn : Int) := by omega
              by_cases hjl : n = jn
              · have HQ : Hid (r = docZ 0 7) := by show _ = _; rw [HT.out]; exact docTail_end _ _ _ _ _ _ _ HJN.out (by rw [HBX.out.1]; omega)
                have t1 : ((jn : Int) == (n : Int)) = true := by rw [beq_iff_eq]; omega
                obtain ⟨r0, r1, r2, r3, r4, r5, s0, s1, s2, s3, s4, s5⟩ := HRV.out.cells
                go_wp2
                refine bodyPost_ret (v := .tuple #[.agg #[.bool false, .string ⟨#[]⟩, .string ⟨#[]⟩, .string ⟨#[]⟩, .bool false, .bool false], .int .i64 0, .int .i64 7]) (by simp [results, Tryd.results6, go_sem, r0, r1, r2, r3, r4, r5, s0, s1, s2, s3, s4, s5]) rfl ?_
                rw [HQ.out]
                refine ⟨rfl, ?_⟩
                repeat refine Below.setCell ?_ (by first | exact Nat.le_refl _ | exact HG.out) _
                exact HZ.out
              · have hlt : jn < n := by omega
                have t1 : ((jn : Int) == (n : Int)) = false := by rw [beq_eq_false_iff_ne]; omega
                have c1 : (jn : Int) < (n : Int) := by omega
                obtain ⟨a, y, hA, hy, hy0, hy1, hcy⟩ := bytesAt_look (HBX.out.below HZ.out) hlt
                cases hA
                have HT2 := Lib.hid (HT.out.trans (docTail_at _ _ _ _ _ _ _ _ HJN.out hy))
                clear hy hjl
                obtain ⟨r0, r1, r2, r3, r4, r5, s0, s1, s2, s3, s4, s5⟩ := HRV.out.cells
                obtain ⟨k0, k1, k2, k3, k4, k5, l0, l1, l2, l3, l4, l5⟩ := HHV.out.cells
                by_cases h91 : y = 91
                · subst h91
                  have HQ : Hid (r = ⟨true, n1, [], [], false, true, (jn : Int) + 1, 0⟩) := by show _ = _; rw [HT2.out, if_pos rfl]
                  go_wp2
                  refine bodyPost_ret (v := .tuple #[.agg #[.bool true, .string (strOfNums n1), .string ⟨#[]⟩, .string ⟨#[]⟩, .bool false, .bool true], .int .i64 ((jn : Int) + 1), .int .i64 0]) (by simp [results, Tryd.results6, go_sem, r0, r1, r2, r3, r4, r5, s0, s1, s2, s3, s4, s5, k0, k1, k2, k3, k4, k5, l0, l1, l2, l3, l4, l5]) rfl ?_
                  rw [HQ.out]
                  refine ⟨rfl, ?_⟩
                  repeat refine Below.setCell ?_ (by first | exact Nat.le_refl _ | exact HG.out) _
                  exact HZ.out
                · by_cases h62 : y = 62
                  · subst h62
                    have HQ : Hid (r = ⟨true, n1, [], [], false, false, (jn : Int) + 1, 0⟩) := by show _ = _; rw [HT2.out, if_neg h91, if_pos rfl]
                    clear h91
                    go_wp2
                    refine bodyPost_ret (v := .tuple #[.agg #[.bool true, .string (strOfNums n1), .string ⟨#[]⟩, .string ⟨#[]⟩, .bool false, .bool false], .int .i64 ((jn : Int) + 1), .int .i64 0]) (by simp [results, Tryd.results6, go_sem, r0, r1, r2, r3, r4, r5, s0, s1, s2, s3, s4, s5, k0, k1, k2, k3, k4, k5, l0, l1, l2, l3, l4, l5]) rfl ?_
                    rw [HQ.out]
                    refine ⟨rfl, ?_⟩
                    repeat refine Below.setCell ?_ (by first | exact Nat.le_refl _ | exact HG.out) _
                    exact HZ.out
                  · have HQ : Hid (r = docZ 0 7) := by show _ = _; rw [HT2.out, if_neg h91, if_neg h62]
                    have t2 : (y == 91) = false := by simpa using h91
                    have t3 : (y == 62) = false := by simpa using h62
                    clear h91 h62
                    go_wp2
                    refine bodyPost_ret (v := .tuple #[.agg #[.bool false, .string ⟨#[]⟩, .string ⟨#[]⟩, .string ⟨#[]⟩, .bool false, .bool false], .int .i64 0, .int .i64 7]) (by simp [results, Tryd.results6, go_sem, r0, r1, r2, r3, r4, r5, s0, s1, s2, s3, s4, s5]) rfl ?_
                    rw [HQ.out]
                    refine ⟨rfl, ?_⟩
                    repeat refine Below.setCell ?_ (by first | exact Nat.le_refl _ | exact HG.out) _
                    exact HZ.out
        · have HQ : Hid (r = docZ 0 n3) := by show _ = _; rw [HY1.out]; unfold docName; rw [if_neg hn3]
          have t3 : (n3 == 0) = false := by simpa using hn3
          have t4 : (n3 != 0) = true := by simpa using hn3
          clear hn3 hnx HY1
          have g0 := HGN.out
          have g1 : ¬ W2.heap.size = w.heap.size := fun h => g0 h.symm
          go_enter Tryd.func6, Tryd.ntmps6
          go_wp2_with fail
          rw [← HV2.out]
          refine KC.out.mono ?_
          rintro e w1 ⟨rfl, rfl⟩
          go_wp2_with fail
          refine EB.out.mono ?_
          rintro e w1 ⟨rfl, hw1⟩
          obtain rfl := hw1.symm
          go_wp2_with fail
          rw [← HV3.out]
          refine NM.out.mono ?_
          rintro e w4 ⟨rfl, hB4⟩
          have hR4 := HR3.out.below hB4
          have hH4 := HH3.out.below hB4
          obtain ⟨r0, r1, r2, r3, r4, r5, s0, s1, s2, s3, s4, s5⟩ := hR4.cells
          obtain ⟨k0, k1, k2, k3, k4, k5, l0, l1, l2, l3, l4, l5⟩ := hH4.cells
          have HZ := Lib.hid (HB3.out.trans (hB4.mono HB3.out.size))
          clear hB4 hR4 hH4
          go_wp2
          refine bodyPost_ret (v := .tuple #[.agg #[.bool false, .string ⟨#[]⟩, .string ⟨#[]⟩, .string ⟨#[]⟩, .bool false, .bool false], .int .i64 0, .int .i64 n3]) (by simp [results, Tryd.results6, go_sem, r0, r1, r2, r3, r4, r5, s0, s1, s2, s3, s4, s5]) rfl ?_
          rw [HQ.out]
          refine ⟨rfl, ?_⟩
          repeat refine Below.setCell ?_ (by first | exact Nat.le_refl _ | exact HG.out) _
          exact HZ.out
set_option maxRecDepth 100000 in
set_option maxHeartbeats 1000000 in
theorem doc_any (A : Option Addr) (n cp : Nat) (at_ : Int) (xs : List Int) (w : World) (hn : n ≤ 1048576) (hcp : n ≤ cp) (hcp2 : cp ≤ 9223372036854775807) (hb : BytesAt w A n xs) (hf : FormsAt w) (ht : Tabs w) :
    Calls Tryd.prog 6 #[.slice A n cp, .int .i64 at_] w (TellDoc (docN xs at_) w) := by
  by_cases h : at_ < 0 ∨ (n : Int) < at_
  · have HQ : Hid (docN xs at_ = docZ 0 3) := by show _ = _; unfold docN; rw [if_pos (by rw [hb.1]; exact h)]
    generalize docN xs at_ = r at HQ ⊢
    clear hb hf ht
    by_cases h0 : at_ < 0
    · clear h
      go_enter Tryd.func6, Tryd.ntmps6
      go_wp2
      refine bodyPost_ret (v := .tuple #[.agg #[.bool false, .string ⟨#[]⟩, .string ⟨#[]⟩, .string ⟨#[]⟩, .bool false, .bool false], .int .i64 0, .int .i64 3]) (by simp [results, Tryd.results6, go_sem]) rfl ?_
      rw [HQ.out]
      exact ⟨rfl, (Below.refl _ _).alloc (Nat.le_refl _) _⟩
    · have h1 : (n : Int) < at_ := by omega
      clear h
      go_enter Tryd.func6, Tryd.ntmps6
      go_wp2
      refine bodyPost_ret (v := .tuple #[.agg #[.bool false, .string ⟨#[]⟩, .string ⟨#[]⟩, .string ⟨#[]⟩, .bool false, .bool false], .int .i64 0, .int .i64 3]) (by simp [results, Tryd.results6, go_sem]) rfl ?_
      rw [HQ.out]
      exact ⟨rfl, (Below.refl _ _).alloc (Nat.le_refl _) _⟩
  · obtain ⟨i, rfl⟩ : ∃ i : Nat, at_ = i := ⟨at_.toNat, by omega⟩
    exact doc_in A n cp i xs w hn hcp hcp2 (by omega) hb hf ht
end Go.Proofs.YtbklopnpehafpaaDoor
