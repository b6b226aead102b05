/- The contract of narthexref13.Ext (whole). Conditions: at most 2^20 bytes. Printed by gen-extrext.py. -/
import Derived.Test.YtbklopnpehafpaaDoorExtPR
namespace Go.Proofs.YtbklopnpehafpaaDoor
open Go.RowKit Go.Proofs.YtbklopnpehafpaaDoor.UtfPlain Go.Proofs.YtbklopnpehafpaaDoor.NamePlain Go.Proofs.YtbklopnpehafpaaDoor.CharsPlain
set_option linter.unusedVariables false
set_option linter.unusedSimpArgs false
theorem sortN_at (xs : List Int) (i : Nat) : sortN (xs.drop i) = if atN xs i publicB then 1 else if atN xs i systemB then 2 else 0 := rfl
theorem idBlk_other {B b : Nat} {a c : ByteArray} {w : World} (h : IdBlk B a c w) (hne : B ≠ b) (o : Nat) (v : Value) : IdBlk B a c (w.setCell ⟨b, o, none⟩ v) := by
  unfold IdBlk at *
  rw [Below.heap_setCell _ _ _ _ (by exact hne)]; exact h
theorem idBlk_set0 {B : Nat} {a c : ByteArray} {w : World} (h : IdBlk B a c w) (s : ByteArray) : IdBlk B s c (w.setCell ⟨B, 0, none⟩ (.string s)) := Go.Joins.block_setCell h _
set_option maxRecDepth 100000 in
set_option maxHeartbeats 1000000 in
theorem rext_in (A : Option Addr) (n cp i : Nat) (xs : List Int) (w : World) (hn : n ≤ 1048576) (hcp : n ≤ cp) (hcp2 : cp ≤ 9223372036854775807) (hi : i ≤ n) (hb : BytesAt w A n xs) :
    Calls Tryd.prog 18 #[.slice A n cp, .int .i64 i, .bool true] w (TellExt (extN xs i) w) := by
  have b0 : (0 : Int) ≤ (i : Int) := by omega
  have b1 : ¬ (n : Int) < (i : Int) := by omega
  obtain ⟨W, hW⟩ : ∃ W, W = (w.alloc (.cells #[.string ⟨#[]⟩, .string ⟨#[]⟩] 25)).alloc (.cells #[.string ⟨#[]⟩, .string ⟨#[]⟩] 25) := ⟨_, rfl⟩
  have hBW : Below w.heap.size w W := by rw [hW]; exact ((Below.refl _ _).alloc (Nat.le_refl _) _).alloc (by simp) _
  have hI0 : IdBlk w.heap.size ⟨#[]⟩ ⟨#[]⟩ W := by
    rw [hW]
    refine IdBlk.below (w := w.alloc (.cells #[.string ⟨#[]⟩, .string ⟨#[]⟩] 25)) ?_ ((Below.refl _ _).alloc (Nat.le_refl _) _)
    unfold IdBlk
    rw [World.alloc]; simp
  have hI1 : IdBlk (w.heap.size + 1) ⟨#[]⟩ ⟨#[]⟩ W := by
    have hz : (w.alloc (.cells #[.string ⟨#[]⟩, .string ⟨#[]⟩] 25)).heap.size = w.heap.size + 1 := by rw [World.alloc]; simp
    show W.heap[w.heap.size + 1]? = _
    rw [hW, ← hz]
    generalize w.alloc (.cells #[.string ⟨#[]⟩, .string ⟨#[]⟩] 25) = U
    rw [World.alloc]; simp
  have AT := fun V s h1 h2 (hV : Below w.heap.size w V) => at_any A n cp i s xs V (by omega) hcp hcp2 (hb.below hV) h1 h2 (by omega)
  have BL := fun V j (hV : Below w.heap.size w V) => rblanks_any A n cp j xs V (by omega) (hb.below hV)
  have PU := fun V j (hV : Below w.heap.size w V) => rpublic_any A n cp j xs V hn hcp hcp2 (hb.below hV)
  have QU := fun V j (hV : Below w.heap.size w V) => rquoted_any A n cp j xs V (by omega) hcp hcp2 (hb.below hV)
  have AP := AT W ⟨#[80, 85, 66, 76, 73, 67]⟩ (by decide) (by decide) hBW
  have AS := AT W ⟨#[83, 89, 83, 84, 69, 77]⟩ (by decide) (by decide) hBW
  rw [show bsOf ⟨#[80, 85, 66, 76, 73, 67]⟩ = publicB from by decide +kernel] at AP
  rw [show bsOf ⟨#[83, 89, 83, 84, 69, 77]⟩ = systemB from by decide +kernel] at AS
  obtain ⟨r, hr⟩ : ∃ r, r = extN xs i := ⟨_, rfl⟩
  rw [← hr]
  unfold extN at hr
  rw [if_neg (by rw [hb.1]; omega), Int.toNat_natCast, sortN_at] at hr
  generalize atN xs i publicB = s1 at AP hr
  generalize atN xs i systemB = s2 at AS hr
  have AP := Lib.hid AP
  have AS := Lib.hid AS
  have BL := Lib.hid BL
  have PU := Lib.hid PU
  have QU := Lib.hid QU
  have HR := Lib.hid hr
  have HBW := Lib.hid hBW
  have HW := Lib.hid hW
  have HI0 := Lib.hid hI0
  have HI1 := Lib.hid hI1
  clear hb hW hBW hI0 hI1 hr AT
  cases s1 with
  | true =>
    have HY0 : Hid (r = if (pubP xs ((i : Int) + 6)).2.2 = 0 then withSys (pubP xs ((i : Int) + 6)).1 (sysN xs (pubP xs ((i : Int) + 6)).2.1) else ([], [], 0, (pubP xs ((i : Int) + 6)).2.2)) := by show _ = _; rw [HR.out]; rfl
    by_cases hz : blankZ xs ((i : Int) + 6) = (i : Int) + 6
    · have HQ : Hid (r = ([], [], 0, 7)) := by
        show _ = _
        rw [HY0.out]; unfold pubP; rw [if_pos hz]; rfl
      have t1 : (blankZ xs ((i : Int) + 6) == (i : Int) + 6) = true := by simpa using hz
      generalize hzz : blankZ xs ((i : Int) + 6) = z at *
      have HZZ := Lib.hid hzz
      clear hz hzz
      go_enter Tryd.func18, Tryd.ntmps18
      go_wp2_with fail
      rw [← HW.out]
      refine AP.out.mono ?_
      rintro e w1 ⟨rfl, rfl⟩
      go_wp2_with fail
      refine (BL.out _ _ HBW.out).mono ?_
      rintro e w9 ⟨rfl, rfl⟩
      rw [HZZ.out]
      have HZ := HBW
      obtain ⟨i0, i1, j0, j1⟩ := (HI0.out).cells
      go_wp2
      refine bodyPost_ret (v := .tuple #[.agg #[.string ⟨#[]⟩, .string ⟨#[]⟩], .int .i64 0, .int .i64 7]) (by simp [results, Tryd.results18, go_sem, i0, i1, j0, j1]) rfl ?_
      rw [HQ.out]
      exact ⟨rfl, (HZ.out.setCell (Nat.le_refl _) _).setCell (Nat.le_refl _) _⟩
    · have t1 : (blankZ xs ((i : Int) + 6) == (i : Int) + 6) = false := by simpa using hz
      have HY1 : Hid (r = if (pubN xs (blankZ xs ((i : Int) + 6))).2.2 = 0 then withSys (pubN xs (blankZ xs ((i : Int) + 6))).1 (sysN xs (pubN xs (blankZ xs ((i : Int) + 6))).2.1) else ([], [], 0, (pubN xs (blankZ xs ((i : Int) + 6))).2.2)) := by
        show _ = _
        rw [HY0.out]; unfold pubP; rw [if_neg hz]
      generalize hzz : blankZ xs ((i : Int) + 6) = z0 at *
      have HZ0 := Lib.hid hzz
      clear hz hzz HY0
      have PU := Lib.hid (fun V => PU.out V z0)
      generalize pubN xs z0 = p at PU HY1
      obtain ⟨p1, p2, p3⟩ := p
      by_cases hp3 : p3 = 0
      · subst hp3
        have HY : Hid (r = withSys p1 (sysN xs p2)) := by show _ = _; rw [HY1.out]; rfl
        clear HY1
        by_cases hz : blankZ xs (p2) = p2
        · have HQ : Hid (r = ([], [], 0, 7)) := by show _ = _; rw [HY.out]; unfold sysN withSys; rw [if_pos hz]; rfl
          have t1 : (blankZ xs (p2) == p2) = true := by simpa using hz
          generalize hzz : blankZ xs (p2) = z at *
          have HZZ := Lib.hid hzz
          clear hz hzz
          go_enter Tryd.func18, Tryd.ntmps18
          go_wp2_with fail
          rw [← HW.out]
          refine AP.out.mono ?_
          rintro e w1 ⟨rfl, rfl⟩
          go_wp2_with fail
          refine (BL.out _ _ HBW.out).mono ?_
          rintro e w9 ⟨rfl, rfl⟩
          rw [HZ0.out]
          go_wp2_with fail
          refine (PU.out _ HBW.out).mono ?_
          rintro e w2 ⟨rfl, hB2⟩
          have hE1 := HI1.out.below hB2
          have hE0 := HI0.out.below hB2
          obtain ⟨k0, k1, l0, l1⟩ := hE1.cells
          have hZ2 := HBW.out.trans (hB2.mono HBW.out.size)
          have HZ := Lib.hid (hZ2.setCell (p := ⟨w.heap.size + 1, 0, none⟩) (Nat.le_succ _) (.string (strOfNums p1)))
          have HR0 := Lib.hid (idBlk_other hE0 (show w.heap.size ≠ w.heap.size + 1 by omega) 0 (.string (strOfNums p1)))
          have HR1 := Lib.hid (idBlk_set0 hE1 (strOfNums p1))
          clear hB2 hE1 hE0 hZ2
          go_wp2_with fail
          refine (BL.out _ _ HZ.out).mono ?_
          rintro e w9 ⟨rfl, rfl⟩
          obtain ⟨z9, hz9⟩ : ∃ z9, z9 = blankZ xs p2 := ⟨_, rfl⟩
          rw [← hz9]
          clear hz9
          go_wp2_with fail
          refine (BL.out _ _ HZ.out).mono ?_
          rintro e w9 ⟨rfl, rfl⟩
          rw [HZZ.out]
          obtain ⟨i0, i1, j0, j1⟩ := (HR0.out).cells
          go_wp2
          refine bodyPost_ret (v := .tuple #[.agg #[.string ⟨#[]⟩, .string ⟨#[]⟩], .int .i64 0, .int .i64 7]) (by simp [results, Tryd.results18, go_sem, i0, i1, j0, j1]) rfl ?_
          rw [HQ.out]
          exact ⟨rfl, (HZ.out.setCell (Nat.le_refl _) _).setCell (Nat.le_refl _) _⟩
        · have t1 : (blankZ xs (p2) == p2) = false := by simpa using hz
          have HY2 : Hid (r = withSys p1 (quoteN xs (blankZ xs (p2)))) := by show _ = _; rw [HY.out]; unfold sysN; rw [if_neg hz]
          generalize hzz : blankZ xs (p2) = z at *
          have HZZ := Lib.hid hzz
          clear hz hzz
          have QU := Lib.hid (fun V => QU.out V z)
          generalize quoteN xs z = y at QU HY2
          obtain ⟨y1, y2, y3⟩ := y
          by_cases hy3 : y3 = 0
          · subst hy3
            have HQ : Hid (r = (p1, y1, y2, 0)) := by show _ = _; rw [HY2.out]; rfl
            go_enter Tryd.func18, Tryd.ntmps18
            go_wp2_with fail
            rw [← HW.out]
            refine AP.out.mono ?_
            rintro e w1 ⟨rfl, rfl⟩
            go_wp2_with fail
            refine (BL.out _ _ HBW.out).mono ?_
            rintro e w9 ⟨rfl, rfl⟩
            rw [HZ0.out]
            go_wp2_with fail
            refine (PU.out _ HBW.out).mono ?_
            rintro e w2 ⟨rfl, hB2⟩
            have hE1 := HI1.out.below hB2
            have hE0 := HI0.out.below hB2
            obtain ⟨k0, k1, l0, l1⟩ := hE1.cells
            have hZ2 := HBW.out.trans (hB2.mono HBW.out.size)
            have HZ := Lib.hid (hZ2.setCell (p := ⟨w.heap.size + 1, 0, none⟩) (Nat.le_succ _) (.string (strOfNums p1)))
            have HR0 := Lib.hid (idBlk_other hE0 (show w.heap.size ≠ w.heap.size + 1 by omega) 0 (.string (strOfNums p1)))
            have HR1 := Lib.hid (idBlk_set0 hE1 (strOfNums p1))
            clear hB2 hE1 hE0 hZ2
            go_wp2_with fail
            refine (BL.out _ _ HZ.out).mono ?_
            rintro e w9 ⟨rfl, rfl⟩
            obtain ⟨z9, hz9⟩ : ∃ z9, z9 = blankZ xs p2 := ⟨_, rfl⟩
            rw [← hz9]
            clear hz9
            go_wp2_with fail
            refine (BL.out _ _ HZ.out).mono ?_
            rintro e w9 ⟨rfl, rfl⟩
            rw [HZZ.out]
            go_wp2_with fail
            refine (QU.out _ HZ.out).mono ?_
            rintro e w3 ⟨rfl, hB3⟩
            have HE0 := HR0.out.below hB3
            have HE1 := HR1.out.below hB3
            have HZ3 := Lib.hid (HZ.out.trans (hB3.mono HZ.out.size))
            obtain ⟨i0, i1, j0, j1⟩ := HE0.cells
            obtain ⟨k0, k1, l0, l1⟩ := HE1.cells
            clear hB3 HE0 HE1
            go_wp2
            refine bodyPost_ret (v := .tuple #[.agg #[.string (strOfNums p1), .string (strOfNums y1)], .int .i64 y2, .int .i64 0]) (by simp [results, Tryd.results18, go_sem, i0, i1, j0, j1, k0, k1, l0, l1]) rfl ?_
            rw [HQ.out]
            exact ⟨rfl, ((HZ3.out.setCell (by exact Nat.le_succ _) _).setCell (Nat.le_refl _) _).setCell (Nat.le_refl _) _⟩
          · have HQ : Hid (r = ([], [], 0, y3)) := by show _ = _; rw [HY2.out]; unfold withSys; rw [if_neg hy3]
            have t3 : (y3 == 0) = false := by simpa using hy3
            have t4 : (y3 != 0) = true := by simpa using hy3
            clear hy3
            go_enter Tryd.func18, Tryd.ntmps18
            go_wp2_with fail
            rw [← HW.out]
            refine AP.out.mono ?_
            rintro e w1 ⟨rfl, rfl⟩
            go_wp2_with fail
            refine (BL.out _ _ HBW.out).mono ?_
            rintro e w9 ⟨rfl, rfl⟩
            rw [HZ0.out]
            go_wp2_with fail
            refine (PU.out _ HBW.out).mono ?_
            rintro e w2 ⟨rfl, hB2⟩
            have hE1 := HI1.out.below hB2
            have hE0 := HI0.out.below hB2
            obtain ⟨k0, k1, l0, l1⟩ := hE1.cells
            have hZ2 := HBW.out.trans (hB2.mono HBW.out.size)
            have HZ := Lib.hid (hZ2.setCell (p := ⟨w.heap.size + 1, 0, none⟩) (Nat.le_succ _) (.string (strOfNums p1)))
            have HR0 := Lib.hid (idBlk_other hE0 (show w.heap.size ≠ w.heap.size + 1 by omega) 0 (.string (strOfNums p1)))
            have HR1 := Lib.hid (idBlk_set0 hE1 (strOfNums p1))
            clear hB2 hE1 hE0 hZ2
            go_wp2_with fail
            refine (BL.out _ _ HZ.out).mono ?_
            rintro e w9 ⟨rfl, rfl⟩
            obtain ⟨z9, hz9⟩ : ∃ z9, z9 = blankZ xs p2 := ⟨_, rfl⟩
            rw [← hz9]
            clear hz9
            go_wp2_with fail
            refine (BL.out _ _ HZ.out).mono ?_
            rintro e w9 ⟨rfl, rfl⟩
            rw [HZZ.out]
            go_wp2_with fail
            refine (QU.out _ HZ.out).mono ?_
            rintro e w3 ⟨rfl, hB3⟩
            have HE0 := HR0.out.below hB3
            have HZ3 := Lib.hid (HZ.out.trans (hB3.mono HZ.out.size))
            obtain ⟨i0, i1, j0, j1⟩ := HE0.cells
            clear hB3 HE0 HZ
            have HZ := HZ3
            go_wp2
            refine bodyPost_ret (v := .tuple #[.agg #[.string ⟨#[]⟩, .string ⟨#[]⟩], .int .i64 0, .int .i64 y3]) (by simp [results, Tryd.results18, go_sem, i0, i1, j0, j1]) rfl ?_
            rw [HQ.out]
            exact ⟨rfl, (HZ.out.setCell (Nat.le_refl _) _).setCell (Nat.le_refl _) _⟩
      · have HQ : Hid (r = ([], [], 0, p3)) := by show _ = _; rw [HY1.out]; show (if p3 = 0 then _ else _) = _; rw [if_neg hp3]
        have t3 : (p3 == 0) = false := by simpa using hp3
        have t4 : (p3 != 0) = true := by simpa using hp3
        clear hp3 HY1
        go_enter Tryd.func18, Tryd.ntmps18
        go_wp2_with fail
        rw [← HW.out]
        refine AP.out.mono ?_
        rintro e w1 ⟨rfl, rfl⟩
        go_wp2_with fail
        refine (BL.out _ _ HBW.out).mono ?_
        rintro e w9 ⟨rfl, rfl⟩
        rw [HZ0.out]
        go_wp2_with fail
        refine (PU.out _ HBW.out).mono ?_
        rintro e w2 ⟨rfl, hB2⟩
        have HE0 := HI0.out.below hB2
        have HZ := Lib.hid (HBW.out.trans (hB2.mono HBW.out.size))
        obtain ⟨i0, i1, j0, j1⟩ := HE0.cells
        clear hB2 HE0
        go_wp2
        refine bodyPost_ret (v := .tuple #[.agg #[.string ⟨#[]⟩, .string ⟨#[]⟩], .int .i64 0, .int .i64 p3]) (by simp [results, Tryd.results18, go_sem, i0, i1, j0, j1]) rfl ?_
        rw [HQ.out]
        exact ⟨rfl, (HZ.out.setCell (Nat.le_refl _) _).setCell (Nat.le_refl _) _⟩
  | false =>
    cases s2 with
    | true =>
      have HY : Hid (r = withSys [] (sysN xs ((i : Int) + 6))) := by show _ = _; rw [HR.out]; rfl
      by_cases hz : blankZ xs ((i : Int) + 6) = (i : Int) + 6
      · have HQ : Hid (r = ([], [], 0, 7)) := by show _ = _; rw [HY.out]; unfold sysN withSys; rw [if_pos hz]; rfl
        have t1 : (blankZ xs ((i : Int) + 6) == (i : Int) + 6) = true := by simpa using hz
        generalize hzz : blankZ xs ((i : Int) + 6) = z at *
        have HZZ := Lib.hid hzz
        clear hz hzz
        go_enter Tryd.func18, Tryd.ntmps18
        go_wp2_with fail
        rw [← HW.out]
        refine AP.out.mono ?_
        rintro e w1 ⟨rfl, rfl⟩
        go_wp2_with fail
        refine AS.out.mono ?_
        rintro e w1 ⟨rfl, rfl⟩
        have HZ := HBW
        have HR0 := HI0
        have HR1 := HI1
        obtain ⟨k0, k1, l0, l1⟩ := HR1.out.cells
        go_wp2_with fail
        refine (BL.out _ _ HZ.out).mono ?_
        rintro e w9 ⟨rfl, rfl⟩
        rw [HZZ.out]
        obtain ⟨i0, i1, j0, j1⟩ := (HR0.out).cells
        go_wp2
        refine bodyPost_ret (v := .tuple #[.agg #[.string ⟨#[]⟩, .string ⟨#[]⟩], .int .i64 0, .int .i64 7]) (by simp [results, Tryd.results18, go_sem, i0, i1, j0, j1]) rfl ?_
        rw [HQ.out]
        exact ⟨rfl, (HZ.out.setCell (Nat.le_refl _) _).setCell (Nat.le_refl _) _⟩
      · have t1 : (blankZ xs ((i : Int) + 6) == (i : Int) + 6) = false := by simpa using hz
        have HY2 : Hid (r = withSys [] (quoteN xs (blankZ xs ((i : Int) + 6)))) := by show _ = _; rw [HY.out]; unfold sysN; rw [if_neg hz]
        generalize hzz : blankZ xs ((i : Int) + 6) = z at *
        have HZZ := Lib.hid hzz
        clear hz hzz
        have QU := Lib.hid (fun V => QU.out V z)
        generalize quoteN xs z = y at QU HY2
        obtain ⟨y1, y2, y3⟩ := y
        by_cases hy3 : y3 = 0
        · subst hy3
          have HQ : Hid (r = ([], y1, y2, 0)) := by show _ = _; rw [HY2.out]; rfl
          go_enter Tryd.func18, Tryd.ntmps18
          go_wp2_with fail
          rw [← HW.out]
          refine AP.out.mono ?_
          rintro e w1 ⟨rfl, rfl⟩
          go_wp2_with fail
          refine AS.out.mono ?_
          rintro e w1 ⟨rfl, rfl⟩
          have HZ := HBW
          have HR0 := HI0
          have HR1 := HI1
          obtain ⟨k0, k1, l0, l1⟩ := HR1.out.cells
          go_wp2_with fail
          refine (BL.out _ _ HZ.out).mono ?_
          rintro e w9 ⟨rfl, rfl⟩
          rw [HZZ.out]
          go_wp2_with fail
          refine (QU.out _ HZ.out).mono ?_
          rintro e w3 ⟨rfl, hB3⟩
          have HE0 := HR0.out.below hB3
          have HE1 := HR1.out.below hB3
          have HZ3 := Lib.hid (HZ.out.trans (hB3.mono HZ.out.size))
          obtain ⟨i0, i1, j0, j1⟩ := HE0.cells
          obtain ⟨k0, k1, l0, l1⟩ := HE1.cells
          clear hB3 HE0 HE1
          go_wp2
          refine bodyPost_ret (v := .tuple #[.agg #[.string ⟨#[]⟩, .string (strOfNums y1)], .int .i64 y2, .int .i64 0]) (by simp [results, Tryd.results18, go_sem, i0, i1, j0, j1, k0, k1, l0, l1]) rfl ?_
          rw [HQ.out]
          exact ⟨rfl, ((HZ3.out.setCell (by exact Nat.le_succ _) _).setCell (Nat.le_refl _) _).setCell (Nat.le_refl _) _⟩
        · have HQ : Hid (r = ([], [], 0, y3)) := by show _ = _; rw [HY2.out]; unfold withSys; rw [if_neg hy3]
          have t3 : (y3 == 0) = false := by simpa using hy3
          have t4 : (y3 != 0) = true := by simpa using hy3
          clear hy3
          go_enter Tryd.func18, Tryd.ntmps18
          go_wp2_with fail
          rw [← HW.out]
          refine AP.out.mono ?_
          rintro e w1 ⟨rfl, rfl⟩
          go_wp2_with fail
          refine AS.out.mono ?_
          rintro e w1 ⟨rfl, rfl⟩
          have HZ := HBW
          have HR0 := HI0
          have HR1 := HI1
          obtain ⟨k0, k1, l0, l1⟩ := HR1.out.cells
          go_wp2_with fail
          refine (BL.out _ _ HZ.out).mono ?_
          rintro e w9 ⟨rfl, rfl⟩
          rw [HZZ.out]
          go_wp2_with fail
          refine (QU.out _ HZ.out).mono ?_
          rintro e w3 ⟨rfl, hB3⟩
          have HE0 := HR0.out.below hB3
          have HZ3 := Lib.hid (HZ.out.trans (hB3.mono HZ.out.size))
          obtain ⟨i0, i1, j0, j1⟩ := HE0.cells
          clear hB3 HE0 HZ
          have HZ := HZ3
          go_wp2
          refine bodyPost_ret (v := .tuple #[.agg #[.string ⟨#[]⟩, .string ⟨#[]⟩], .int .i64 0, .int .i64 y3]) (by simp [results, Tryd.results18, go_sem, i0, i1, j0, j1]) rfl ?_
          rw [HQ.out]
          exact ⟨rfl, (HZ.out.setCell (Nat.le_refl _) _).setCell (Nat.le_refl _) _⟩
    | false =>
      have HQ : Hid (r = ([], [], 0, 7)) := by show _ = _; rw [HR.out]; rfl
      go_enter Tryd.func18, Tryd.ntmps18
      go_wp2_with fail
      rw [← HW.out]
      refine AP.out.mono ?_
      rintro e w1 ⟨rfl, rfl⟩
      go_wp2_with fail
      refine AS.out.mono ?_
      rintro e w1 ⟨rfl, rfl⟩
      have HZ := HBW
      obtain ⟨i0, i1, j0, j1⟩ := (HI0.out).cells
      go_wp2
      refine bodyPost_ret (v := .tuple #[.agg #[.string ⟨#[]⟩, .string ⟨#[]⟩], .int .i64 0, .int .i64 7]) (by simp [results, Tryd.results18, go_sem, i0, i1, j0, j1]) rfl ?_
      rw [HQ.out]
      exact ⟨rfl, (HZ.out.setCell (Nat.le_refl _) _).setCell (Nat.le_refl _) _⟩
set_option maxRecDepth 100000 in
set_option maxHeartbeats 1000000 in
theorem rext_any (A : Option Addr) (n cp : Nat) (at_ : Int) (xs : List Int) (w : World) (hn : n ≤ 1048576) (hcp : n ≤ cp) (hcp2 : cp ≤ 9223372036854775807) (hb : BytesAt w A n xs) :
    Calls Tryd.prog 18 #[.slice A n cp, .int .i64 at_, .bool true] w (TellExt (extN xs at_) w) := by
  by_cases h : at_ < 0 ∨ (n : Int) < at_
  · have HQ : Hid (extN xs at_ = ([], [], 0, 3)) := by show _ = _; unfold extN; rw [if_pos (by rw [hb.1]; exact h)]
    generalize extN xs at_ = r at HQ ⊢
    clear hb
    by_cases h0 : at_ < 0
    · clear h
      go_enter Tryd.func18, Tryd.ntmps18
      go_wp2
      refine bodyPost_ret (v := .tuple #[.agg #[.string ⟨#[]⟩, .string ⟨#[]⟩], .int .i64 0, .int .i64 3]) (by simp [results, Tryd.results18, go_sem]) rfl ?_
      rw [HQ.out]
      exact ⟨rfl, (Below.refl _ _).alloc (Nat.le_refl _) _⟩
    · have h1 : (n : Int) < at_ := by omega
      clear h
      go_enter Tryd.func18, Tryd.ntmps18
      go_wp2
      refine bodyPost_ret (v := .tuple #[.agg #[.string ⟨#[]⟩, .string ⟨#[]⟩], .int .i64 0, .int .i64 3]) (by simp [results, Tryd.results18, go_sem]) rfl ?_
      rw [HQ.out]
      exact ⟨rfl, (Below.refl _ _).alloc (Nat.le_refl _) _⟩
  · obtain ⟨i, rfl⟩ : ∃ i : Nat, at_ = i := ⟨at_.toNat, by omega⟩
    exact rext_in A n cp i xs w hn hcp hcp2 (by omega) hb
end Go.Proofs.YtbklopnpehafpaaDoor
