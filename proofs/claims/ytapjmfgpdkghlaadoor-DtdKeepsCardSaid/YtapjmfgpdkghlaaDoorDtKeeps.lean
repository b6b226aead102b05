/- DtdKeeps: the first of each name is kept, of any declarations. Conditions: cref.known as the text lays it. Printed by gen-dtkeeps.py and takef.py. -/
import Derived.Test.YtapjmfgpdkghlaaDoorDtStays
namespace Go.Proofs.YtapjmfgpdkghlaaDoor
open Go.RowKit Go.Maps
set_option linter.unusedVariables false
set_option linter.unusedSimpArgs false
theorem wpAnyH_moreD {P : Program} {md : Region.Mode} {ops : Array Oper} {Q : Exit → Act → World → Prop} {S S' : World → Prop} (hS : ∀ w, S' w → S w) :
    ∀ (fuel : Nat) (listed : Array Bool) (a : Act) (w : World), wpAnyH P md ops Q S' fuel listed a w → wpAnyH P md ops Q S fuel listed a w
  | 0, _, _, _, h => h
  | fuel + 1, _, _, _, h => ⟨h.1, fun i hi => wpOp_mono (fun a' w' h' => ⟨hS w' h'.1, wpAnyH_moreD hS fuel _ a' w' h'.2⟩) (h.2 i hi)⟩
/-- What a table tells of a name, and where the reference finds it. -/
structure FoundE (l : List Ent) (s : ByteArray) (E : Ent) (ok : Bool) (I : Int) : Prop where
  yes : ok = true → ∃ j : Nat, I = (j : Int) ∧ l[j]? = some E ∧ j < l.length
  no : ok = false → I = -1 ∧ E = Ent.zero
theorem foundE (l : List Ent) (s : ByteArray) : FoundE l s (findE l s) (hasT (l.map Ent.na) s) (findI (l.map Ent.na) s) := by
  refine ⟨fun h => ?_, fun h => ?_⟩
  · have hlt := idxT_lt h
    rw [List.length_map] at hlt
    refine ⟨idxT (l.map Ent.na) s, by unfold findI; rw [if_pos h], ?_, hlt⟩
    unfold findE
    rw [if_pos h, List.getD_eq_getElem?_getD, List.getElem?_eq_getElem hlt]
    rfl
  · exact ⟨by unfold findI; rw [if_neg (by rw [h]; decide)], by unfold findE; rw [if_neg (by rw [h]; decide)]⟩
structure FoundN (l : List DcP) (s : ByteArray) (p q : ByteArray) (ok : Bool) (I : Int) : Prop where
  yes : ok = true → ∃ (j : Nat) (d : DcP), I = (j : Int) ∧ l[j]? = some d ∧ p = d.pu ∧ q = d.sy
  no : ok = false → I = -1 ∧ p = ⟨#[]⟩ ∧ q = ⟨#[]⟩
theorem foundN (l : List DcP) (s : ByteArray) : FoundN l s (findN (tabR l).nots s).1 (findN (tabR l).nots s).2 (hasT ((tabR l).nots.map (·.1)) s) (notI l s) := by
  refine ⟨fun h => ?_, fun h => ?_⟩
  · rw [tab_not_has] at h
    obtain ⟨k, d, h1, h2, h3⟩ := notI_has h
    refine ⟨k, d, h2, h1, ?_, ?_⟩
    · rw [tab_not_find, h3]
    · rw [tab_not_find, h3]
  · rw [tab_not_has] at h
    obtain ⟨h1, h2⟩ := notI_hasnt h
    refine ⟨h1, ?_, ?_⟩
    · rw [tab_not_find, h2]
    · rw [tab_not_find, h2]
theorem neqZero : ∀ V, (binOp .neq 46 (.agg #[.string ⟨#[]⟩, .string ⟨#[]⟩, .bool false, .string ⟨#[]⟩, .string ⟨#[]⟩, .string ⟨#[]⟩]) (.agg #[.string ⟨#[]⟩, .string ⟨#[]⟩, .bool false, .string ⟨#[]⟩, .string ⟨#[]⟩, .string ⟨#[]⟩])).run Tryd.prog V = .ok (.bool false) V := fun V => (entNeq Ent.zero Ent.zero V).trans (by rw [decide_eq_true rfl]; rfl)
theorem neqZeroI : ∀ V, (binOp .neq 44 (.agg #[.string ⟨#[]⟩, .string ⟨#[]⟩]) (.agg #[.string ⟨#[]⟩, .string ⟨#[]⟩])).run Tryd.prog V = .ok (.bool false) V := fun V => (idNeq ⟨#[]⟩ ⟨#[]⟩ ⟨#[]⟩ ⟨#[]⟩ V).trans (by rw [decide_eq_true ⟨rfl, rfl⟩]; rfl)
set_option maxRecDepth 100000 in
set_option maxHeartbeats 16000000 in
theorem dtdKeeps_any (A : Option Addr) (n c : Nat) (l : List Dc) (s : ByteArray) (w : World) (h : DcsAt w A n l) (hs : s.size ≤ maxLen) (hK : KnownAt w) : Calls Tryd.prog 4 #[.slice A n c, .string s] w (RetBB true w) := by
  have DS := Lib.hid h
  have HKN := Lib.hid hK
  have HSS := Lib.hid hs
  have CG := Lib.hid (great17_any A n c l w h)
  clear h hK hs
  go_enter Tryd.func4, Tryd.ntmps4
  go_wp2_with fail
  refine CG.out.mono ?_
  rintro e w1 ⟨bg, rfl, hbg, hB1⟩
  have HB1 := Lib.hid hB1
  have HKN1 := Lib.hid (HKN.out.later hB1)
  clear hB1 CG
  cases bg with
  | true =>
    have CL := Lib.hid (live17_any w1 HKN1.out)
    clear hbg
    go_wp2_with fail
    refine CL.out.mono ?_
    rintro e w2 ⟨rfl, hB2⟩
    have HB2 := Lib.hid (HB1.out.trans (hB2.mono HB1.out.size))
    clear hB2 CL
    go_wp2
    go_ret
    exact ⟨rfl, HB2.out⟩
  | false =>
    have HOK := Lib.hid (hbg rfl)
    have hn : n ≤ 1048576 := by have h1 := (hbg rfl).1; rw [List.length_map, DS.out.1] at h1; omega
    have CF := Lib.hid (fill_any A n c l w1 (DcsAt.below (w := w) DS.out HB1.out) HOK.out HKN1.out)
    clear hbg
    go_wp2_with fail
    refine CF.out.mono ?_
    rintro e w2 ⟨tb, T, rfl, ht2, hst, hB2⟩
    have TO := Lib.hid (TabOf.mk2 hst HOK.out)
    have HST := Lib.hid hst
    have HB := Lib.hid (HB1.out.trans (hB2.mono HB1.out.size))
    have HT := Lib.hid ht2
    have hgg : T.gens = entsR (l.map Dc.pl) false := (congrArg TSt.gens hst).trans (tab_gens _)
    have hpp : T.pars = entsR (l.map Dc.pl) true := (congrArg TSt.pars hst).trans (tab_pars _)
    have hgl : T.gens.length ≤ 16 := by have := TO.out.bnd.g; unfold Tm.st at this; exact this
    have hpl : T.pars.length ≤ 16 := by have := TO.out.bnd.p; unfold Tm.st at this; exact this
    have hnl : T.nots.length ≤ 16 := by have := TO.out.bnd.n; unfold Tm.st at this; exact this
    have HGG := Lib.hid hgg
    have HPP := Lib.hid hpp
    have HGL := Lib.hid hgl
    have HPL := Lib.hid hpl
    have HNL := Lib.hid hnl
    clear ht2 hst hB2 CF hgg hpp hgl hpl hnl
    have C := Lib.hid (generals_any HT.out (by have := HGL.out; omega))
    go_wp2_with fail
    refine C.out.mono ?_
    rintro e w3 ⟨Aw3, cw3, rfl, ho, hB⟩
    clear C
    have E1 := Lib.hid (EnsAt.of_own ho)
    have HT := Lib.hid (HT.out.below hB)
    have HB := Lib.hid (HB.out.trans (hB.mono HB.out.size))
    clear ho hB
    have C := Lib.hid (rents_any A n c l false w3 (DcsAt.below (w := w) DS.out HB.out) hn)
    go_wp2_with fail
    refine C.out.mono ?_
    rintro e w4 ⟨Aw4, cw4, rfl, ho, hB⟩
    clear C
    have E2 := Lib.hid (EnsAt.of_own ho)
    have E1 := Lib.hid (EnsAt.below (w := w3) E1.out hB)
    have HT := Lib.hid (HT.out.below hB)
    have HB := Lib.hid (HB.out.trans (hB.mono HB.out.size))
    clear ho hB
    have C := rsame_any Aw3 T.gens.length cw3 T.gens Aw4 (entsR (l.map Dc.pl) false).length cw4 (entsR (l.map Dc.pl) false) w4 E1.out E2.out (by have := HGL.out; omega)
    rw [decide_eq_true HGG.out] at C
    have C := Lib.hid C
    go_wp2_with fail
    refine C.out.mono ?_
    rintro e w5 ⟨rfl, dd, rfl⟩
    clear C E1 E2
    have HD := Lib.hid (below_drewN (Below.refl w4.heap.size w4) dd)
    generalize w4.drewN dd = w5 at *
    have HT := Lib.hid (HT.out.below HD.out)
    have HB := Lib.hid (HB.out.trans (HD.out.mono HB.out.size))
    clear HD
    have C := Lib.hid (params_any HT.out (by have := HPL.out; omega))
    go_wp2_with fail
    refine C.out.mono ?_
    rintro e w6 ⟨Aw6, cw6, rfl, ho, hB⟩
    clear C
    have E1 := Lib.hid (EnsAt.of_own ho)
    have HT := Lib.hid (HT.out.below hB)
    have HB := Lib.hid (HB.out.trans (hB.mono HB.out.size))
    clear ho hB
    have C := Lib.hid (rents_any A n c l true w6 (DcsAt.below (w := w) DS.out HB.out) hn)
    go_wp2_with fail
    refine C.out.mono ?_
    rintro e w7 ⟨Aw7, cw7, rfl, ho, hB⟩
    clear C
    have E2 := Lib.hid (EnsAt.of_own ho)
    have E1 := Lib.hid (EnsAt.below (w := w6) E1.out hB)
    have HT := Lib.hid (HT.out.below hB)
    have HB := Lib.hid (HB.out.trans (hB.mono HB.out.size))
    clear ho hB
    have C := rsame_any Aw6 T.pars.length cw6 T.pars Aw7 (entsR (l.map Dc.pl) true).length cw7 (entsR (l.map Dc.pl) true) w7 E1.out E2.out (by have := HPL.out; omega)
    rw [decide_eq_true HPP.out] at C
    have C := Lib.hid C
    go_wp2_with fail
    refine C.out.mono ?_
    rintro e w8 ⟨rfl, dd, rfl⟩
    clear C E1 E2
    have HD := Lib.hid (below_drewN (Below.refl w7.heap.size w7) dd)
    generalize w7.drewN dd = w8 at *
    have HT := Lib.hid (HT.out.below HD.out)
    have HB := Lib.hid (HB.out.trans (HD.out.mono HB.out.size))
    clear HD
    have C := Lib.hid (elements_any HT.out (by have := TO.out.els; omega))
    have hnsl : (T.els.map Elm.na).length ≤ 16 := by rw [List.length_map]; exact TO.out.els
    have hnse := TO.out.names
    generalize T.els.map Elm.na = ns at *
    have HNE := Lib.hid hnse
    clear hnse
    go_wp2_with fail
    refine C.out.mono ?_
    rintro e w9 ⟨Aw9, cw9, rfl, ho, hB⟩
    clear C
    have E1 := Lib.hid (TsAt.of_own ho)
    have HT := Lib.hid (HT.out.below hB)
    have HB := Lib.hid (HB.out.trans (hB.mono HB.out.size))
    clear ho hB
    have C := Lib.hid (relems_any A n c l w9 (DcsAt.below (w := w) DS.out HB.out) hn)
    go_wp2_with fail
    refine C.out.mono ?_
    rintro e w10 ⟨Aw10, cw10, rfl, ho, hB⟩
    clear C
    have E2 := Lib.hid (TsAt.of_own ho)
    have E1 := Lib.hid (TsAt.below (w := w9) E1.out hB)
    have HT := Lib.hid (HT.out.below hB)
    have HB := Lib.hid (HB.out.trans (hB.mono HB.out.size))
    clear ho hB
    have C := rtexts_any Aw9 ns.length cw9 ns Aw10 (elsR (l.map Dc.pl)).length cw10 (elsR (l.map Dc.pl)) w10 E1.out E2.out (by omega)
    rw [decide_eq_true HNE.out] at C
    have C := Lib.hid C
    go_wp2_with fail
    refine C.out.mono ?_
    rintro e w11 ⟨rfl, dd, rfl⟩
    clear C E1 E2
    have HD := Lib.hid (below_drewN (Below.refl w10.heap.size w10) dd)
    generalize w10.drewN dd = w11 at *
    have HT := Lib.hid (HT.out.below HD.out)
    have HB := Lib.hid (HB.out.trans (HD.out.mono HB.out.size))
    clear HD
    have hlt : lenT T.st ≤ 1000000 := TO.out.bnd.len
    have hle : lenM T = lenR (l.map Dc.pl) := by rw [lenM_is, HST.out, tab_len]
    have C := len_any HT.out (by rw [lenM_is]; omega) (by have := TO.out.els; omega)
    rw [hle] at C
    have C := Lib.hid C
    have HLR := Lib.hid (show lenR (l.map Dc.pl) ≤ 1000000000 by rw [← hle, lenM_is]; omega)
    clear hlt hle
    go_wp2_with fail
    refine C.out.mono ?_
    rintro e w12 ⟨rfl, hB⟩
    clear C
    have HT := Lib.hid (HT.out.below hB)
    have HB := Lib.hid (HB.out.trans (hB.mono HB.out.size))
    clear hB
    have C := Lib.hid (rlen_any A n c l w12 (DcsAt.below (w := w) DS.out HB.out) hn (okDc_len HOK.out) HLR.out)
    clear HLR
    generalize lenR (l.map Dc.pl) = len at *
    go_wp2_with fail
    refine C.out.mono ?_
    rintro e w13 ⟨rfl, hB⟩
    clear C
    have HT := Lib.hid (HT.out.below hB)
    have HB := Lib.hid (HB.out.trans (hB.mono HB.out.size))
    clear hB
    have C := general_any HT.out s HSS.out (by have := HGL.out; omega)
    unfold TellE at C
    have FE := foundE T.gens s
    generalize findE T.gens s = E at *
    generalize hasT (T.gens.map Ent.na) s = ok at *
    rw [HGG.out] at FE
    have FE := Lib.hid FE
    have C := Lib.hid C
    obtain ⟨ea, eb, ec, ed, ee, ef⟩ := E
    go_wp2_with fail
    refine C.out.mono ?_
    rintro e w14 ⟨rfl, hB⟩
    clear C
    have HT := Lib.hid (HT.out.below hB)
    have HB := Lib.hid (HB.out.trans (hB.mono HB.out.size))
    clear hB
    obtain ⟨w15, hW, hs, hBW, bx⟩ := boxWorld w14 #[.string ea, .string eb, .bool ec, .string ed, .string ee, .string ef] 46
    have HW := Lib.hid hW
    have BX := Lib.hid bx
    have HT := Lib.hid (HT.out.below hBW)
    have HB := Lib.hid (HB.out.trans (hBW.mono HB.out.size))
    have hlb : w14.heap.size < w15.heap.size := (Array.getElem?_eq_some_iff.1 bx).1
    clear hBW hW hs bx
    dsimp only [Ent.v]
    go_upto_region 7 with (fail)
    rw [HW.out]
    clear HW
    have C := Lib.hid (rents_any A n c l false w15 (DcsAt.below (w := w) DS.out HB.out) hn)
    go_wp2_with fail
    refine C.out.mono ?_
    rintro e w16 ⟨Aw16, cw16, rfl, ho, hB⟩
    clear C
    have C := Lib.hid (rfind_any Aw16 (entsR (l.map Dc.pl) false).length cw16 (entsR (l.map Dc.pl) false) s w16 (EnsAt.of_own ho) (by rw [← HGG.out]; have := HGL.out; omega))
    have BX := Lib.hid ((hB.block _ hlb).trans BX.out)
    have HT := Lib.hid (HT.out.below hB)
    have HB := Lib.hid (HB.out.trans (hB.mono HB.out.size))
    clear ho hB hlb
    generalize findI ((entsR (l.map Dc.pl) false).map Ent.na) s = I at *
    go_wp2_with fail
    refine C.out.mono ?_
    rintro e w' ⟨rfl, rfl⟩
    clear C
    go_upto_region 8 with (fail)
    have hlb : w14.heap.size < w16.heap.size := (Array.getElem?_eq_some_iff.1 BX.out).1
    have HSB : Hid (∀ V, Below w16.heap.size w16 V → V.cell? ⟨w14.heap.size, 0, none⟩ = some (.string ea) ∧ V.cell? ⟨w14.heap.size, 1, none⟩ = some (.string eb) ∧ V.cell? ⟨w14.heap.size, 2, none⟩ = some (.bool ec) ∧ V.cell? ⟨w14.heap.size, 3, none⟩ = some (.string ed) ∧ V.cell? ⟨w14.heap.size, 4, none⟩ = some (.string ee) ∧ V.cell? ⟨w14.heap.size, 5, none⟩ = some (.string ef)) := Lib.hid (fun V hV => by
      have hb := (hV.block _ hlb).trans BX.out
      exact ⟨cellsOf_block hb rfl, cellsOf_block hb rfl, cellsOf_block hb rfl, cellsOf_block hb rfl, cellsOf_block hb rfl, cellsOf_block hb rfl⟩)
    clear BX hlb
    go_cut [89] from 65 (fun c wx => c = .bool false ∧ Hid (Below w16.heap.size w16 wx))
    case first =>
      cases ok with
      | true =>
        obtain ⟨j, hI, hj, hjl⟩ := FE.out.yes rfl
        subst hI
        have b0 : (0 : Int) ≤ (j : Int) := by omega
        have C := Lib.hid (rents_any A n c l false w16.drew (DcsAt.below (w := w) DS.out (HB.out.drew)) hn)
        have q1 : ∀ V, (binOp .neq 46 (.agg #[.string ea, .string eb, .bool ec, .string ed, .string ee, .string ef]) (.agg #[.string ea, .string eb, .bool ec, .string ed, .string ee, .string ef])).run Tryd.prog V = .ok (.bool false) V := fun V => (entNeq ⟨ea, eb, ec, ed, ee, ef⟩ ⟨ea, eb, ec, ed, ee, ef⟩ V).trans (by rw [decide_eq_true rfl]; rfl)
        refine wp_region_held_drew (S := fun V => V.cell? ⟨w14.heap.size, 0, none⟩ = some (.string ea) ∧ V.cell? ⟨w14.heap.size, 1, none⟩ = some (.string eb) ∧ V.cell? ⟨w14.heap.size, 2, none⟩ = some (.bool ec) ∧ V.cell? ⟨w14.heap.size, 3, none⟩ = some (.string ed) ∧ V.cell? ⟨w14.heap.size, 4, none⟩ = some (.string ee) ∧ V.cell? ⟨w14.heap.size, 5, none⟩ = some (.string ef)) (by kernel_rfl) (HSB.out _ (Below.refl _ _).drew) (fun hHeld => ?_)
        --TAKES narthex/narthexlaw17.DtdKeeps:8 0..8 10
        refine wpAnyH_take (i := 0) (oi := ({ dst := some 65, op := Op.move (Operand.tmp 8), type := 4, pos := "law.go:55", after := #[], guard := none } : Oper)) (v := ?_) rfl (by kernel_rfl) (by kernel_rfl) (by kernel_rfl) (fun _ _ _ h => h) (Or.inl ⟨by rfl, ?_⟩) (by assumption) ?_
        rotate_left 1
        · intro w hSw; (try dsimp only at hSw); go_simp; try with_reducible rfl
        (try simp only [Act.put, List.setIfInBounds_toArray, List.set_cons_zero, List.set_cons_succ])
        refine wpAnyH_take (i := 1) (oi := ({ dst := some 66, op := Op.move (Operand.tmp 9), type := 3, pos := "law.go:55", after := #[], guard := none } : Oper)) (v := ?_) rfl (by kernel_rfl) (by kernel_rfl) (by kernel_rfl) (fun _ _ _ h => h) (Or.inl ⟨by rfl, ?_⟩) (by assumption) ?_
        rotate_left 1
        · intro w hSw; (try dsimp only at hSw); go_simp; try with_reducible rfl
        (try simp only [Act.put, List.setIfInBounds_toArray, List.set_cons_zero, List.set_cons_succ])
        refine wpAnyH_take (i := 2) (oi := ({ dst := some 67, op := Op.binOp BinOp.geq 3 (Operand.tmp 66) (Operand.const (Value.int IntKind.i64 0)) 3, type := 4, pos := "law.go:55", after := #[{ on := 1, ground := Ground.data }], guard := none } : Oper)) (v := ?_) rfl (by kernel_rfl) (by kernel_rfl) (by kernel_rfl) (fun _ _ _ h => h) (Or.inl ⟨by rfl, ?_⟩) (by assumption) ?_
        rotate_left 1
        · intro w hSw; (try dsimp only at hSw); go_simp; try with_reducible rfl
        (try simp only [Act.put, List.setIfInBounds_toArray, List.set_cons_zero, List.set_cons_succ])
        refine wpAnyH_take (i := 3) (oi := ({ dst := some 68, op := Op.binOp BinOp.neq 4 (Operand.tmp 65) (Operand.tmp 67) 4, type := 4, pos := "law.go:55", after := #[{ on := 0, ground := Ground.data }, { on := 2, ground := Ground.data }], guard := none } : Oper)) (v := ?_) rfl (by kernel_rfl) (by kernel_rfl) (by kernel_rfl) (fun _ _ _ h => h) (Or.inl ⟨by rfl, ?_⟩) (by assumption) ?_
        rotate_left 1
        · intro w hSw; (try dsimp only at hSw); go_simp; try with_reducible rfl
        (try simp only [Act.put, List.setIfInBounds_toArray, List.set_cons_zero, List.set_cons_succ])
        refine wpAnyH_take (i := 4) (oi := ({ dst := some 69, op := Op.move (Operand.tmp 68), type := 4, pos := "law.go:55", after := #[{ on := 3, ground := Ground.data }], guard := none } : Oper)) (v := ?_) rfl (by kernel_rfl) (by kernel_rfl) (by kernel_rfl) (fun _ _ _ h => h) (Or.inl ⟨by rfl, ?_⟩) (by assumption) ?_
        rotate_left 1
        · intro w hSw; (try dsimp only at hSw); go_simp; try with_reducible rfl
        (try simp only [Act.put, List.setIfInBounds_toArray, List.set_cons_zero, List.set_cons_succ])
        refine wpAnyH_take (i := 5) (oi := ({ dst := some 70, op := Op.move (Operand.tmp 8), type := 4, pos := "law.go:55", after := #[{ on := 4, ground := Ground.guard }], guard := some (4, false) } : Oper)) (v := ?_) rfl (by kernel_rfl) (by kernel_rfl) (by kernel_rfl) (fun _ _ _ h => h) (Or.inl ⟨by rfl, ?_⟩) (by assumption) ?_
        rotate_left 1
        · intro w hSw; (try dsimp only at hSw); go_simp; try with_reducible rfl
        (try simp only [Act.put, List.setIfInBounds_toArray, List.set_cons_zero, List.set_cons_succ])
        refine wpAnyH_take (i := 6) (oi := ({ dst := some 71, op := Op.move (Operand.tmp 70), type := 4, pos := "law.go:55", after := #[{ on := 5, ground := Ground.data }, { on := 4, ground := Ground.chain }, { on := 4, ground := Ground.guard }], guard := some (4, false) } : Oper)) (v := ?_) rfl (by kernel_rfl) (by kernel_rfl) (by kernel_rfl) (fun _ _ _ h => h) (Or.inl ⟨by rfl, ?_⟩) (by assumption) ?_
        rotate_left 1
        · intro w hSw; (try dsimp only at hSw); go_simp; try with_reducible rfl
        (try simp only [Act.put, List.setIfInBounds_toArray, List.set_cons_zero, List.set_cons_succ])
        refine wpAnyH_take (i := 7) (oi := ({ dst := some 72, op := Op.load 46 (Operand.tmp 7), type := 46, pos := "law.go:55", after := #[{ on := 6, ground := Ground.guard }], guard := some (6, true) } : Oper)) (v := ?_) rfl (by kernel_rfl) (by kernel_rfl) (by kernel_rfl) (fun _ _ _ h => h) (Or.inl ⟨by rfl, ?_⟩) (by assumption) ?_
        rotate_left 1
        · intro w hSw; (try dsimp only at hSw); go_simp; try with_reducible rfl
        (try simp only [Act.put, List.setIfInBounds_toArray, List.set_cons_zero, List.set_cons_succ])
        refine wpAnyH_take (i := 8) (oi := ({ dst := some 73, op := Op.move (Operand.tmp 0), type := 22, pos := "law.go:55", after := #[{ on := 6, ground := Ground.guard }], guard := some (6, true) } : Oper)) (v := ?_) rfl (by kernel_rfl) (by kernel_rfl) (by kernel_rfl) (fun _ _ _ h => h) (Or.inl ⟨by rfl, ?_⟩) (by assumption) ?_
        rotate_left 1
        · intro w hSw; (try dsimp only at hSw); go_simp; try with_reducible rfl
        (try simp only [Act.put, List.setIfInBounds_toArray, List.set_cons_zero, List.set_cons_succ])
        refine wpAnyH_take (i := 10) (oi := ({ dst := some 75, op := Op.move (Operand.tmp 9), type := 3, pos := "law.go:55", after := #[{ on := 6, ground := Ground.guard }], guard := some (6, true) } : Oper)) (v := ?_) rfl (by kernel_rfl) (by kernel_rfl) (by kernel_rfl) (fun _ _ _ h => h) (Or.inl ⟨by rfl, ?_⟩) (by assumption) ?_
        rotate_left 1
        · intro w hSw; (try dsimp only at hSw); go_simp; try with_reducible rfl
        (try simp only [Act.put, List.setIfInBounds_toArray, List.set_cons_zero, List.set_cons_succ])
        --END
        refine wpAnyH_ready (rs := [9]) (by kernel_rfl) (by simp) ?_
        refine AllReadyH.cons (o := _) rfl (fun K hK => ?_) AllReadyH.nil
        go_simp
        refine C.out.mono ?_
        rintro e w9 ⟨A9, c9, rfl, ho, hB9⟩
        have hB9' : Below w16.heap.size w16 w9 := (show Below w16.heap.size w16 w16.drew from (Below.refl _ _).drew).trans hB9
        obtain ⟨a9, x9, hA9, hx9, gx⟩ := (EnsAt.of_own ho).2 j hjl
        rw [hj] at hx9
        cases hx9
        obtain ⟨_, r0, r1, r2, r3, r4, r5⟩ := gx
        dsimp only at r0 r1 r2 r3 r4 r5
        subst hA9
        have HB9 := Lib.hid hB9'
        have hS9 := HSB.out _ hB9'
        have b1 : (j : Int) < ((entsR (l.map Dc.pl) false).length : Int) := by omega
        dsimp only
        refine hK.out _ _ hS9 (fun hHeld => ?_)
        clear hK K C ho hB9 hB9' HSB
        generalize (entsR (l.map Dc.pl) false).length = en at *
        (try simp only [Act.put, List.setIfInBounds_toArray, List.set_cons_zero, List.set_cons_succ])
        refine wpAnyH_moreD (S' := fun V => (V.cell? ⟨w14.heap.size, 0, none⟩ = some (.string ea) ∧ V.cell? ⟨w14.heap.size, 1, none⟩ = some (.string eb) ∧ V.cell? ⟨w14.heap.size, 2, none⟩ = some (.bool ec) ∧ V.cell? ⟨w14.heap.size, 3, none⟩ = some (.string ed) ∧ V.cell? ⟨w14.heap.size, 4, none⟩ = some (.string ee) ∧ V.cell? ⟨w14.heap.size, 5, none⟩ = some (.string ef)) ∧ V.cell? (a9.add (j * 6)) = some (.string ea) ∧ V.cell? ⟨(a9.add (j * 6)).block, (a9.add (j * 6)).off + 1, none⟩ = some (.string eb) ∧ V.cell? ⟨(a9.add (j * 6)).block, (a9.add (j * 6)).off + 2, none⟩ = some (.bool ec) ∧ V.cell? ⟨(a9.add (j * 6)).block, (a9.add (j * 6)).off + 3, none⟩ = some (.string ed) ∧ V.cell? ⟨(a9.add (j * 6)).block, (a9.add (j * 6)).off + 4, none⟩ = some (.string ee) ∧ V.cell? ⟨(a9.add (j * 6)).block, (a9.add (j * 6)).off + 5, none⟩ = some (.string ef)) (fun _ h => h.1) _ _ _ _ ?_
        clear hHeld
        have hHeld2 := And.intro hS9 (And.intro r0 (And.intro r1 (And.intro r2 (And.intro r3 (And.intro r4 r5)))))
        clear hS9
        --TAKES narthex/narthexlaw17.DtdKeeps:8 11..19 -20 -21 -22 23 24
        refine wpAnyH_take (i := 11) (oi := ({ dst := some 76, op := Op.indexAddr 37 (Operand.tmp 74) (Operand.tmp 75), type := 0, pos := "law.go:55", after := #[{ on := 9, ground := Ground.data }, { on := 10, ground := Ground.data }, { on := 6, ground := Ground.guard }], guard := some (6, true) } : Oper)) (v := ?_) rfl (by kernel_rfl) (by kernel_rfl) (by kernel_rfl) (fun _ _ _ h => h) (Or.inl ⟨by rfl, ?_⟩) (by assumption) ?_
        rotate_left 1
        · intro w hSw; (try dsimp only at hSw); go_simp; try with_reducible rfl
        (try simp only [Act.put, List.setIfInBounds_toArray, List.set_cons_zero, List.set_cons_succ])
        refine wpAnyH_take (i := 12) (oi := ({ dst := some 77, op := Op.load 46 (Operand.tmp 76), type := 46, pos := "law.go:55", after := #[{ on := 11, ground := Ground.data }, { on := 6, ground := Ground.guard }], guard := some (6, true) } : Oper)) (v := ?_) rfl (by kernel_rfl) (by kernel_rfl) (by kernel_rfl) (fun _ _ _ h => h) (Or.inl ⟨by rfl, ?_⟩) (by assumption) ?_
        rotate_left 1
        · intro w hSw; (try dsimp only at hSw); go_simp; try with_reducible rfl
        (try simp only [Act.put, List.setIfInBounds_toArray, List.set_cons_zero, List.set_cons_succ])
        refine wpAnyH_take (i := 13) (oi := ({ dst := some 78, op := Op.binOp BinOp.neq 46 (Operand.tmp 72) (Operand.tmp 77) 46, type := 4, pos := "law.go:55", after := #[{ on := 7, ground := Ground.data }, { on := 12, ground := Ground.data }, { on := 6, ground := Ground.guard }], guard := some (6, true) } : Oper)) (v := ?_) rfl (by kernel_rfl) (by kernel_rfl) (by kernel_rfl) (fun _ _ _ h => h) (Or.inl ⟨by rfl, ?_⟩) (by assumption) ?_
        rotate_left 1
        · intro w hSw; (try dsimp only at hSw); go_simp; try with_reducible rfl
        (try simp only [Act.put, List.setIfInBounds_toArray, List.set_cons_zero, List.set_cons_succ])
        refine wpAnyH_take (i := 14) (oi := ({ dst := some 79, op := Op.pick (Operand.tmp 71) (Operand.tmp 78) (Operand.const (Value.bool false)), type := 4, pos := "law.go:55", after := #[{ on := 6, ground := Ground.data }, { on := 13, ground := Ground.data }, { on := 4, ground := Ground.guard }], guard := some (4, false) } : Oper)) (v := ?_) rfl (by kernel_rfl) (by kernel_rfl) (by kernel_rfl) (fun _ _ _ h => h) (Or.inl ⟨by rfl, ?_⟩) (by assumption) ?_
        rotate_left 1
        · intro w hSw; (try dsimp only at hSw); go_simp; try with_reducible rfl
        (try simp only [Act.put, List.setIfInBounds_toArray, List.set_cons_zero, List.set_cons_succ])
        refine wpAnyH_take (i := 15) (oi := ({ dst := some 80, op := Op.pick (Operand.tmp 69) (Operand.const (Value.bool true)) (Operand.tmp 79), type := 4, pos := "law.go:55", after := #[{ on := 4, ground := Ground.data }, { on := 14, ground := Ground.data }], guard := none } : Oper)) (v := ?_) rfl (by kernel_rfl) (by kernel_rfl) (by kernel_rfl) (fun _ _ _ h => h) (Or.inl ⟨by rfl, ?_⟩) (by assumption) ?_
        rotate_left 1
        · intro w hSw; (try dsimp only at hSw); go_simp; try with_reducible rfl
        (try simp only [Act.put, List.setIfInBounds_toArray, List.set_cons_zero, List.set_cons_succ])
        refine wpAnyH_take (i := 16) (oi := ({ dst := some 81, op := Op.move (Operand.tmp 80), type := 4, pos := "law.go:55", after := #[{ on := 15, ground := Ground.data }, { on := 9, ground := Ground.chain }], guard := none } : Oper)) (v := ?_) rfl (by kernel_rfl) (by kernel_rfl) (by kernel_rfl) (fun _ _ _ h => h) (Or.inl ⟨by rfl, ?_⟩) (by assumption) ?_
        rotate_left 1
        · intro w hSw; (try dsimp only at hSw); go_simp; try with_reducible rfl
        (try simp only [Act.put, List.setIfInBounds_toArray, List.set_cons_zero, List.set_cons_succ])
        refine wpAnyH_take (i := 17) (oi := ({ dst := some 82, op := Op.move (Operand.tmp 8), type := 4, pos := "law.go:55", after := #[{ on := 16, ground := Ground.guard }], guard := some (16, false) } : Oper)) (v := ?_) rfl (by kernel_rfl) (by kernel_rfl) (by kernel_rfl) (fun _ _ _ h => h) (Or.inl ⟨by rfl, ?_⟩) (by assumption) ?_
        rotate_left 1
        · intro w hSw; (try dsimp only at hSw); go_simp; try with_reducible rfl
        (try simp only [Act.put, List.setIfInBounds_toArray, List.set_cons_zero, List.set_cons_succ])
        refine wpAnyH_take (i := 18) (oi := ({ dst := some 83, op := Op.unOp UnOp.not 4 (Operand.tmp 82), type := 4, pos := "law.go:55", after := #[{ on := 17, ground := Ground.data }, { on := 16, ground := Ground.guard }], guard := some (16, false) } : Oper)) (v := ?_) rfl (by kernel_rfl) (by kernel_rfl) (by kernel_rfl) (fun _ _ _ h => h) (Or.inl ⟨by rfl, ?_⟩) (by assumption) ?_
        rotate_left 1
        · intro w hSw; (try dsimp only at hSw); go_simp; try with_reducible rfl
        (try simp only [Act.put, List.setIfInBounds_toArray, List.set_cons_zero, List.set_cons_succ])
        refine wpAnyH_take (i := 19) (oi := ({ dst := some 84, op := Op.move (Operand.tmp 83), type := 4, pos := "law.go:55", after := #[{ on := 18, ground := Ground.data }, { on := 16, ground := Ground.chain }, { on := 16, ground := Ground.guard }], guard := some (16, false) } : Oper)) (v := ?_) rfl (by kernel_rfl) (by kernel_rfl) (by kernel_rfl) (fun _ _ _ h => h) (Or.inl ⟨by rfl, ?_⟩) (by assumption) ?_
        rotate_left 1
        · intro w hSw; (try dsimp only at hSw); go_simp; try with_reducible rfl
        (try simp only [Act.put, List.setIfInBounds_toArray, List.set_cons_zero, List.set_cons_succ])
        refine wpAnyH_take (i := 20) (oi := ({ dst := some 85, op := Op.load 46 (Operand.tmp 7), type := 46, pos := "law.go:55", after := #[{ on := 19, ground := Ground.guard }], guard := some (19, true) } : Oper)) (v := undef) rfl (by kernel_rfl) (by kernel_rfl) (by kernel_rfl) (fun _ _ _ h => h) (Or.inr ⟨by rfl, rfl⟩) (by assumption) ?_
        (try simp only [Act.put, List.setIfInBounds_toArray, List.set_cons_zero, List.set_cons_succ])
        refine wpAnyH_take (i := 21) (oi := ({ dst := some 86, op := Op.build 46 #[], type := 46, pos := "law.go:55", after := #[{ on := 19, ground := Ground.guard }], guard := some (19, true) } : Oper)) (v := undef) rfl (by kernel_rfl) (by kernel_rfl) (by kernel_rfl) (fun _ _ _ h => h) (Or.inr ⟨by rfl, rfl⟩) (by assumption) ?_
        (try simp only [Act.put, List.setIfInBounds_toArray, List.set_cons_zero, List.set_cons_succ])
        refine wpAnyH_take (i := 22) (oi := ({ dst := some 87, op := Op.binOp BinOp.neq 46 (Operand.tmp 85) (Operand.tmp 86) 46, type := 4, pos := "law.go:55", after := #[{ on := 20, ground := Ground.data }, { on := 21, ground := Ground.data }, { on := 19, ground := Ground.guard }], guard := some (19, true) } : Oper)) (v := undef) rfl (by kernel_rfl) (by kernel_rfl) (by kernel_rfl) (fun _ _ _ h => h) (Or.inr ⟨by rfl, rfl⟩) (by assumption) ?_
        (try simp only [Act.put, List.setIfInBounds_toArray, List.set_cons_zero, List.set_cons_succ])
        refine wpAnyH_take (i := 23) (oi := ({ dst := some 88, op := Op.pick (Operand.tmp 84) (Operand.tmp 87) (Operand.const (Value.bool false)), type := 4, pos := "law.go:55", after := #[{ on := 19, ground := Ground.data }, { on := 22, ground := Ground.data }, { on := 16, ground := Ground.guard }], guard := some (16, false) } : Oper)) (v := ?_) rfl (by kernel_rfl) (by kernel_rfl) (by kernel_rfl) (fun _ _ _ h => h) (Or.inl ⟨by rfl, ?_⟩) (by assumption) ?_
        rotate_left 1
        · intro w hSw; (try dsimp only at hSw); go_simp; try with_reducible rfl
        (try simp only [Act.put, List.setIfInBounds_toArray, List.set_cons_zero, List.set_cons_succ])
        refine wpAnyH_take (i := 24) (oi := ({ dst := some 89, op := Op.pick (Operand.tmp 81) (Operand.const (Value.bool true)) (Operand.tmp 88), type := 4, pos := "law.go:55", after := #[{ on := 16, ground := Ground.data }, { on := 23, ground := Ground.data }], guard := none } : Oper)) (v := ?_) rfl (by kernel_rfl) (by kernel_rfl) (by kernel_rfl) (fun _ _ _ h => h) (Or.inl ⟨by rfl, ?_⟩) (by assumption) ?_
        rotate_left 1
        · intro w hSw; (try dsimp only at hSw); go_simp; try with_reducible rfl
        (try simp only [Act.put, List.setIfInBounds_toArray, List.set_cons_zero, List.set_cons_succ])
        --END
        refine wpAnyH_done (by kernel_rfl) ?_ _
        clear hHeld2
        go_wp2
        go_meet
        case rel => exact ⟨rfl, HB9⟩
      | false =>
        obtain ⟨hI, hE⟩ := FE.out.no rfl
        injection hE with h1 h2 h3 h4 h5 h6
        subst h1 h2 h3 h4 h5 h6 hI
        have q1 := neqZero
        have HB9 := Lib.hid (show Below w16.heap.size w16 w16.drew from (Below.refl _ _).drew)
        refine wp_region_held_drew (S := fun V => V.cell? ⟨w14.heap.size, 0, none⟩ = some (.string ⟨#[]⟩) ∧ V.cell? ⟨w14.heap.size, 1, none⟩ = some (.string ⟨#[]⟩) ∧ V.cell? ⟨w14.heap.size, 2, none⟩ = some (.bool false) ∧ V.cell? ⟨w14.heap.size, 3, none⟩ = some (.string ⟨#[]⟩) ∧ V.cell? ⟨w14.heap.size, 4, none⟩ = some (.string ⟨#[]⟩) ∧ V.cell? ⟨w14.heap.size, 5, none⟩ = some (.string ⟨#[]⟩)) (by kernel_rfl) (HSB.out _ (Below.refl _ _).drew) (fun hHeld => ?_)
        clear HSB
        --TAKES narthex/narthexlaw17.DtdKeeps:8 0..6 -7 -8 -9 -10 -11 -12 -13 14..24
        refine wpAnyH_take (i := 0) (oi := ({ dst := some 65, op := Op.move (Operand.tmp 8), type := 4, pos := "law.go:55", after := #[], guard := none } : Oper)) (v := ?_) rfl (by kernel_rfl) (by kernel_rfl) (by kernel_rfl) (fun _ _ _ h => h) (Or.inl ⟨by rfl, ?_⟩) (by assumption) ?_
        rotate_left 1
        · intro w hSw; (try dsimp only at hSw); go_simp; try with_reducible rfl
        (try simp only [Act.put, List.setIfInBounds_toArray, List.set_cons_zero, List.set_cons_succ])
        refine wpAnyH_take (i := 1) (oi := ({ dst := some 66, op := Op.move (Operand.tmp 9), type := 3, pos := "law.go:55", after := #[], guard := none } : Oper)) (v := ?_) rfl (by kernel_rfl) (by kernel_rfl) (by kernel_rfl) (fun _ _ _ h => h) (Or.inl ⟨by rfl, ?_⟩) (by assumption) ?_
        rotate_left 1
        · intro w hSw; (try dsimp only at hSw); go_simp; try with_reducible rfl
        (try simp only [Act.put, List.setIfInBounds_toArray, List.set_cons_zero, List.set_cons_succ])
        refine wpAnyH_take (i := 2) (oi := ({ dst := some 67, op := Op.binOp BinOp.geq 3 (Operand.tmp 66) (Operand.const (Value.int IntKind.i64 0)) 3, type := 4, pos := "law.go:55", after := #[{ on := 1, ground := Ground.data }], guard := none } : Oper)) (v := ?_) rfl (by kernel_rfl) (by kernel_rfl) (by kernel_rfl) (fun _ _ _ h => h) (Or.inl ⟨by rfl, ?_⟩) (by assumption) ?_
        rotate_left 1
        · intro w hSw; (try dsimp only at hSw); go_simp; try with_reducible rfl
        (try simp only [Act.put, List.setIfInBounds_toArray, List.set_cons_zero, List.set_cons_succ])
        refine wpAnyH_take (i := 3) (oi := ({ dst := some 68, op := Op.binOp BinOp.neq 4 (Operand.tmp 65) (Operand.tmp 67) 4, type := 4, pos := "law.go:55", after := #[{ on := 0, ground := Ground.data }, { on := 2, ground := Ground.data }], guard := none } : Oper)) (v := ?_) rfl (by kernel_rfl) (by kernel_rfl) (by kernel_rfl) (fun _ _ _ h => h) (Or.inl ⟨by rfl, ?_⟩) (by assumption) ?_
        rotate_left 1
        · intro w hSw; (try dsimp only at hSw); go_simp; try with_reducible rfl
        (try simp only [Act.put, List.setIfInBounds_toArray, List.set_cons_zero, List.set_cons_succ])
        refine wpAnyH_take (i := 4) (oi := ({ dst := some 69, op := Op.move (Operand.tmp 68), type := 4, pos := "law.go:55", after := #[{ on := 3, ground := Ground.data }], guard := none } : Oper)) (v := ?_) rfl (by kernel_rfl) (by kernel_rfl) (by kernel_rfl) (fun _ _ _ h => h) (Or.inl ⟨by rfl, ?_⟩) (by assumption) ?_
        rotate_left 1
        · intro w hSw; (try dsimp only at hSw); go_simp; try with_reducible rfl
        (try simp only [Act.put, List.setIfInBounds_toArray, List.set_cons_zero, List.set_cons_succ])
        refine wpAnyH_take (i := 5) (oi := ({ dst := some 70, op := Op.move (Operand.tmp 8), type := 4, pos := "law.go:55", after := #[{ on := 4, ground := Ground.guard }], guard := some (4, false) } : Oper)) (v := ?_) rfl (by kernel_rfl) (by kernel_rfl) (by kernel_rfl) (fun _ _ _ h => h) (Or.inl ⟨by rfl, ?_⟩) (by assumption) ?_
        rotate_left 1
        · intro w hSw; (try dsimp only at hSw); go_simp; try with_reducible rfl
        (try simp only [Act.put, List.setIfInBounds_toArray, List.set_cons_zero, List.set_cons_succ])
        refine wpAnyH_take (i := 6) (oi := ({ dst := some 71, op := Op.move (Operand.tmp 70), type := 4, pos := "law.go:55", after := #[{ on := 5, ground := Ground.data }, { on := 4, ground := Ground.chain }, { on := 4, ground := Ground.guard }], guard := some (4, false) } : Oper)) (v := ?_) rfl (by kernel_rfl) (by kernel_rfl) (by kernel_rfl) (fun _ _ _ h => h) (Or.inl ⟨by rfl, ?_⟩) (by assumption) ?_
        rotate_left 1
        · intro w hSw; (try dsimp only at hSw); go_simp; try with_reducible rfl
        (try simp only [Act.put, List.setIfInBounds_toArray, List.set_cons_zero, List.set_cons_succ])
        refine wpAnyH_take (i := 7) (oi := ({ dst := some 72, op := Op.load 46 (Operand.tmp 7), type := 46, pos := "law.go:55", after := #[{ on := 6, ground := Ground.guard }], guard := some (6, true) } : Oper)) (v := undef) rfl (by kernel_rfl) (by kernel_rfl) (by kernel_rfl) (fun _ _ _ h => h) (Or.inr ⟨by rfl, rfl⟩) (by assumption) ?_
        (try simp only [Act.put, List.setIfInBounds_toArray, List.set_cons_zero, List.set_cons_succ])
        refine wpAnyH_take (i := 8) (oi := ({ dst := some 73, op := Op.move (Operand.tmp 0), type := 22, pos := "law.go:55", after := #[{ on := 6, ground := Ground.guard }], guard := some (6, true) } : Oper)) (v := undef) rfl (by kernel_rfl) (by kernel_rfl) (by kernel_rfl) (fun _ _ _ h => h) (Or.inr ⟨by rfl, rfl⟩) (by assumption) ?_
        (try simp only [Act.put, List.setIfInBounds_toArray, List.set_cons_zero, List.set_cons_succ])
        refine wpAnyH_take (i := 9) (oi := ({ dst := some 74, op := Op.call { callee := Callee.value (Operand.func 16), args := #[Operand.tmp 73, Operand.const (Value.bool false)], argTypes := #[22, 4] }, type := 37, pos := "law.go:55", after := #[{ on := 8, ground := Ground.data }, { on := 6, ground := Ground.chain }, { on := 6, ground := Ground.guard }], guard := some (6, true) } : Oper)) (v := undef) rfl (by kernel_rfl) (by kernel_rfl) (by kernel_rfl) (fun _ _ _ h => h) (Or.inr ⟨by rfl, rfl⟩) (by assumption) ?_
        (try simp only [Act.put, List.setIfInBounds_toArray, List.set_cons_zero, List.set_cons_succ])
        refine wpAnyH_take (i := 10) (oi := ({ dst := some 75, op := Op.move (Operand.tmp 9), type := 3, pos := "law.go:55", after := #[{ on := 6, ground := Ground.guard }], guard := some (6, true) } : Oper)) (v := undef) rfl (by kernel_rfl) (by kernel_rfl) (by kernel_rfl) (fun _ _ _ h => h) (Or.inr ⟨by rfl, rfl⟩) (by assumption) ?_
        (try simp only [Act.put, List.setIfInBounds_toArray, List.set_cons_zero, List.set_cons_succ])
        refine wpAnyH_take (i := 11) (oi := ({ dst := some 76, op := Op.indexAddr 37 (Operand.tmp 74) (Operand.tmp 75), type := 0, pos := "law.go:55", after := #[{ on := 9, ground := Ground.data }, { on := 10, ground := Ground.data }, { on := 6, ground := Ground.guard }], guard := some (6, true) } : Oper)) (v := undef) rfl (by kernel_rfl) (by kernel_rfl) (by kernel_rfl) (fun _ _ _ h => h) (Or.inr ⟨by rfl, rfl⟩) (by assumption) ?_
        (try simp only [Act.put, List.setIfInBounds_toArray, List.set_cons_zero, List.set_cons_succ])
        refine wpAnyH_take (i := 12) (oi := ({ dst := some 77, op := Op.load 46 (Operand.tmp 76), type := 46, pos := "law.go:55", after := #[{ on := 11, ground := Ground.data }, { on := 6, ground := Ground.guard }], guard := some (6, true) } : Oper)) (v := undef) rfl (by kernel_rfl) (by kernel_rfl) (by kernel_rfl) (fun _ _ _ h => h) (Or.inr ⟨by rfl, rfl⟩) (by assumption) ?_
        (try simp only [Act.put, List.setIfInBounds_toArray, List.set_cons_zero, List.set_cons_succ])
        refine wpAnyH_take (i := 13) (oi := ({ dst := some 78, op := Op.binOp BinOp.neq 46 (Operand.tmp 72) (Operand.tmp 77) 46, type := 4, pos := "law.go:55", after := #[{ on := 7, ground := Ground.data }, { on := 12, ground := Ground.data }, { on := 6, ground := Ground.guard }], guard := some (6, true) } : Oper)) (v := undef) rfl (by kernel_rfl) (by kernel_rfl) (by kernel_rfl) (fun _ _ _ h => h) (Or.inr ⟨by rfl, rfl⟩) (by assumption) ?_
        (try simp only [Act.put, List.setIfInBounds_toArray, List.set_cons_zero, List.set_cons_succ])
        refine wpAnyH_take (i := 14) (oi := ({ dst := some 79, op := Op.pick (Operand.tmp 71) (Operand.tmp 78) (Operand.const (Value.bool false)), type := 4, pos := "law.go:55", after := #[{ on := 6, ground := Ground.data }, { on := 13, ground := Ground.data }, { on := 4, ground := Ground.guard }], guard := some (4, false) } : Oper)) (v := ?_) rfl (by kernel_rfl) (by kernel_rfl) (by kernel_rfl) (fun _ _ _ h => h) (Or.inl ⟨by rfl, ?_⟩) (by assumption) ?_
        rotate_left 1
        · intro w hSw; (try dsimp only at hSw); go_simp; try with_reducible rfl
        (try simp only [Act.put, List.setIfInBounds_toArray, List.set_cons_zero, List.set_cons_succ])
        refine wpAnyH_take (i := 15) (oi := ({ dst := some 80, op := Op.pick (Operand.tmp 69) (Operand.const (Value.bool true)) (Operand.tmp 79), type := 4, pos := "law.go:55", after := #[{ on := 4, ground := Ground.data }, { on := 14, ground := Ground.data }], guard := none } : Oper)) (v := ?_) rfl (by kernel_rfl) (by kernel_rfl) (by kernel_rfl) (fun _ _ _ h => h) (Or.inl ⟨by rfl, ?_⟩) (by assumption) ?_
        rotate_left 1
        · intro w hSw; (try dsimp only at hSw); go_simp; try with_reducible rfl
        (try simp only [Act.put, List.setIfInBounds_toArray, List.set_cons_zero, List.set_cons_succ])
        refine wpAnyH_take (i := 16) (oi := ({ dst := some 81, op := Op.move (Operand.tmp 80), type := 4, pos := "law.go:55", after := #[{ on := 15, ground := Ground.data }, { on := 9, ground := Ground.chain }], guard := none } : Oper)) (v := ?_) rfl (by kernel_rfl) (by kernel_rfl) (by kernel_rfl) (fun _ _ _ h => h) (Or.inl ⟨by rfl, ?_⟩) (by assumption) ?_
        rotate_left 1
        · intro w hSw; (try dsimp only at hSw); go_simp; try with_reducible rfl
        (try simp only [Act.put, List.setIfInBounds_toArray, List.set_cons_zero, List.set_cons_succ])
        refine wpAnyH_take (i := 17) (oi := ({ dst := some 82, op := Op.move (Operand.tmp 8), type := 4, pos := "law.go:55", after := #[{ on := 16, ground := Ground.guard }], guard := some (16, false) } : Oper)) (v := ?_) rfl (by kernel_rfl) (by kernel_rfl) (by kernel_rfl) (fun _ _ _ h => h) (Or.inl ⟨by rfl, ?_⟩) (by assumption) ?_
        rotate_left 1
        · intro w hSw; (try dsimp only at hSw); go_simp; try with_reducible rfl
        (try simp only [Act.put, List.setIfInBounds_toArray, List.set_cons_zero, List.set_cons_succ])
        refine wpAnyH_take (i := 18) (oi := ({ dst := some 83, op := Op.unOp UnOp.not 4 (Operand.tmp 82), type := 4, pos := "law.go:55", after := #[{ on := 17, ground := Ground.data }, { on := 16, ground := Ground.guard }], guard := some (16, false) } : Oper)) (v := ?_) rfl (by kernel_rfl) (by kernel_rfl) (by kernel_rfl) (fun _ _ _ h => h) (Or.inl ⟨by rfl, ?_⟩) (by assumption) ?_
        rotate_left 1
        · intro w hSw; (try dsimp only at hSw); go_simp; try with_reducible rfl
        (try simp only [Act.put, List.setIfInBounds_toArray, List.set_cons_zero, List.set_cons_succ])
        refine wpAnyH_take (i := 19) (oi := ({ dst := some 84, op := Op.move (Operand.tmp 83), type := 4, pos := "law.go:55", after := #[{ on := 18, ground := Ground.data }, { on := 16, ground := Ground.chain }, { on := 16, ground := Ground.guard }], guard := some (16, false) } : Oper)) (v := ?_) rfl (by kernel_rfl) (by kernel_rfl) (by kernel_rfl) (fun _ _ _ h => h) (Or.inl ⟨by rfl, ?_⟩) (by assumption) ?_
        rotate_left 1
        · intro w hSw; (try dsimp only at hSw); go_simp; try with_reducible rfl
        (try simp only [Act.put, List.setIfInBounds_toArray, List.set_cons_zero, List.set_cons_succ])
        refine wpAnyH_take (i := 20) (oi := ({ dst := some 85, op := Op.load 46 (Operand.tmp 7), type := 46, pos := "law.go:55", after := #[{ on := 19, ground := Ground.guard }], guard := some (19, true) } : Oper)) (v := ?_) rfl (by kernel_rfl) (by kernel_rfl) (by kernel_rfl) (fun _ _ _ h => h) (Or.inl ⟨by rfl, ?_⟩) (by assumption) ?_
        rotate_left 1
        · intro w hSw; (try dsimp only at hSw); go_simp; try with_reducible rfl
        (try simp only [Act.put, List.setIfInBounds_toArray, List.set_cons_zero, List.set_cons_succ])
        refine wpAnyH_take (i := 21) (oi := ({ dst := some 86, op := Op.build 46 #[], type := 46, pos := "law.go:55", after := #[{ on := 19, ground := Ground.guard }], guard := some (19, true) } : Oper)) (v := ?_) rfl (by kernel_rfl) (by kernel_rfl) (by kernel_rfl) (fun _ _ _ h => h) (Or.inl ⟨by rfl, ?_⟩) (by assumption) ?_
        rotate_left 1
        · intro w hSw; (try dsimp only at hSw); go_simp; try with_reducible rfl
        (try simp only [Act.put, List.setIfInBounds_toArray, List.set_cons_zero, List.set_cons_succ])
        refine wpAnyH_take (i := 22) (oi := ({ dst := some 87, op := Op.binOp BinOp.neq 46 (Operand.tmp 85) (Operand.tmp 86) 46, type := 4, pos := "law.go:55", after := #[{ on := 20, ground := Ground.data }, { on := 21, ground := Ground.data }, { on := 19, ground := Ground.guard }], guard := some (19, true) } : Oper)) (v := ?_) rfl (by kernel_rfl) (by kernel_rfl) (by kernel_rfl) (fun _ _ _ h => h) (Or.inl ⟨by rfl, ?_⟩) (by assumption) ?_
        rotate_left 1
        · intro w hSw; (try dsimp only at hSw); go_simp; try with_reducible rfl
        (try simp only [Act.put, List.setIfInBounds_toArray, List.set_cons_zero, List.set_cons_succ])
        refine wpAnyH_take (i := 23) (oi := ({ dst := some 88, op := Op.pick (Operand.tmp 84) (Operand.tmp 87) (Operand.const (Value.bool false)), type := 4, pos := "law.go:55", after := #[{ on := 19, ground := Ground.data }, { on := 22, ground := Ground.data }, { on := 16, ground := Ground.guard }], guard := some (16, false) } : Oper)) (v := ?_) rfl (by kernel_rfl) (by kernel_rfl) (by kernel_rfl) (fun _ _ _ h => h) (Or.inl ⟨by rfl, ?_⟩) (by assumption) ?_
        rotate_left 1
        · intro w hSw; (try dsimp only at hSw); go_simp; try with_reducible rfl
        (try simp only [Act.put, List.setIfInBounds_toArray, List.set_cons_zero, List.set_cons_succ])
        refine wpAnyH_take (i := 24) (oi := ({ dst := some 89, op := Op.pick (Operand.tmp 81) (Operand.const (Value.bool true)) (Operand.tmp 88), type := 4, pos := "law.go:55", after := #[{ on := 16, ground := Ground.data }, { on := 23, ground := Ground.data }], guard := none } : Oper)) (v := ?_) rfl (by kernel_rfl) (by kernel_rfl) (by kernel_rfl) (fun _ _ _ h => h) (Or.inl ⟨by rfl, ?_⟩) (by assumption) ?_
        rotate_left 1
        · intro w hSw; (try dsimp only at hSw); go_simp; try with_reducible rfl
        (try simp only [Act.put, List.setIfInBounds_toArray, List.set_cons_zero, List.set_cons_succ])
        --END
        refine wpAnyH_done (by kernel_rfl) ?_ _
        clear hHeld
        go_wp2
        go_meet
        case rel => exact ⟨rfl, HB9⟩
    case rest =>
    obtain ⟨rfl, HBc⟩ := hcut
    have HT := Lib.hid (HT.out.below HBc.out)
    have HB := Lib.hid (HB.out.trans (HBc.out.mono HB.out.size))
    clear HBc HSB FE
    have C := param_any HT.out s HSS.out (by have := HPL.out; omega)
    unfold TellE at C
    have FE := foundE T.pars s
    generalize findE T.pars s = E at *
    generalize hasT (T.pars.map Ent.na) s = ok at *
    rw [HPP.out] at FE
    have FE := Lib.hid FE
    have C := Lib.hid C
    obtain ⟨ea, eb, ec, ed, ee, ef⟩ := E
    go_wp2_with fail
    refine C.out.mono ?_
    rintro e w19 ⟨rfl, hB⟩
    clear C
    have HT := Lib.hid (HT.out.below hB)
    have HB := Lib.hid (HB.out.trans (hB.mono HB.out.size))
    clear hB
    obtain ⟨w20, hW, hs, hBW, bx⟩ := boxWorld w19 #[.string ea, .string eb, .bool ec, .string ed, .string ee, .string ef] 46
    have HW := Lib.hid hW
    have BX := Lib.hid bx
    have HT := Lib.hid (HT.out.below hBW)
    have HB := Lib.hid (HB.out.trans (hBW.mono HB.out.size))
    have hlb : w19.heap.size < w20.heap.size := (Array.getElem?_eq_some_iff.1 bx).1
    clear hBW hW hs bx
    dsimp only [Ent.v]
    go_upto_region 11 with (fail)
    rw [HW.out]
    clear HW
    have C := Lib.hid (rents_any A n c l true w20 (DcsAt.below (w := w) DS.out HB.out) hn)
    go_wp2_with fail
    refine C.out.mono ?_
    rintro e w21 ⟨Aw21, cw21, rfl, ho, hB⟩
    clear C
    have C := Lib.hid (rfind_any Aw21 (entsR (l.map Dc.pl) true).length cw21 (entsR (l.map Dc.pl) true) s w21 (EnsAt.of_own ho) (by rw [← HPP.out]; have := HPL.out; omega))
    have BX := Lib.hid ((hB.block _ hlb).trans BX.out)
    have HT := Lib.hid (HT.out.below hB)
    have HB := Lib.hid (HB.out.trans (hB.mono HB.out.size))
    clear ho hB hlb
    generalize findI ((entsR (l.map Dc.pl) true).map Ent.na) s = I at *
    go_wp2_with fail
    refine C.out.mono ?_
    rintro e w' ⟨rfl, rfl⟩
    clear C
    go_upto_region 12 with (fail)
    have hlb : w19.heap.size < w21.heap.size := (Array.getElem?_eq_some_iff.1 BX.out).1
    have HSB : Hid (∀ V, Below w21.heap.size w21 V → V.cell? ⟨w19.heap.size, 0, none⟩ = some (.string ea) ∧ V.cell? ⟨w19.heap.size, 1, none⟩ = some (.string eb) ∧ V.cell? ⟨w19.heap.size, 2, none⟩ = some (.bool ec) ∧ V.cell? ⟨w19.heap.size, 3, none⟩ = some (.string ed) ∧ V.cell? ⟨w19.heap.size, 4, none⟩ = some (.string ee) ∧ V.cell? ⟨w19.heap.size, 5, none⟩ = some (.string ef)) := Lib.hid (fun V hV => by
      have hb := (hV.block _ hlb).trans BX.out
      exact ⟨cellsOf_block hb rfl, cellsOf_block hb rfl, cellsOf_block hb rfl, cellsOf_block hb rfl, cellsOf_block hb rfl, cellsOf_block hb rfl⟩)
    clear BX hlb
    go_cut [124] from 100 (fun c wx => c = .bool false ∧ Hid (Below w21.heap.size w21 wx))
    case first =>
      cases ok with
      | true =>
        obtain ⟨j, hI, hj, hjl⟩ := FE.out.yes rfl
        subst hI
        have b0 : (0 : Int) ≤ (j : Int) := by omega
        have C := Lib.hid (rents_any A n c l true w21.drew (DcsAt.below (w := w) DS.out (HB.out.drew)) hn)
        have q1 : ∀ V, (binOp .neq 46 (.agg #[.string ea, .string eb, .bool ec, .string ed, .string ee, .string ef]) (.agg #[.string ea, .string eb, .bool ec, .string ed, .string ee, .string ef])).run Tryd.prog V = .ok (.bool false) V := fun V => (entNeq ⟨ea, eb, ec, ed, ee, ef⟩ ⟨ea, eb, ec, ed, ee, ef⟩ V).trans (by rw [decide_eq_true rfl]; rfl)
        refine wp_region_held_drew (S := fun V => V.cell? ⟨w19.heap.size, 0, none⟩ = some (.string ea) ∧ V.cell? ⟨w19.heap.size, 1, none⟩ = some (.string eb) ∧ V.cell? ⟨w19.heap.size, 2, none⟩ = some (.bool ec) ∧ V.cell? ⟨w19.heap.size, 3, none⟩ = some (.string ed) ∧ V.cell? ⟨w19.heap.size, 4, none⟩ = some (.string ee) ∧ V.cell? ⟨w19.heap.size, 5, none⟩ = some (.string ef)) (by kernel_rfl) (HSB.out _ (Below.refl _ _).drew) (fun hHeld => ?_)
        --TAKES narthex/narthexlaw17.DtdKeeps:12 0..8 10
        refine wpAnyH_take (i := 0) (oi := ({ dst := some 100, op := Op.move (Operand.tmp 8), type := 4, pos := "law.go:59", after := #[], guard := none } : Oper)) (v := ?_) rfl (by kernel_rfl) (by kernel_rfl) (by kernel_rfl) (fun _ _ _ h => h) (Or.inl ⟨by rfl, ?_⟩) (by assumption) ?_
        rotate_left 1
        · intro w hSw; (try dsimp only at hSw); go_simp; try with_reducible rfl
        (try simp only [Act.put, List.setIfInBounds_toArray, List.set_cons_zero, List.set_cons_succ])
        refine wpAnyH_take (i := 1) (oi := ({ dst := some 101, op := Op.move (Operand.tmp 11), type := 3, pos := "law.go:59", after := #[], guard := none } : Oper)) (v := ?_) rfl (by kernel_rfl) (by kernel_rfl) (by kernel_rfl) (fun _ _ _ h => h) (Or.inl ⟨by rfl, ?_⟩) (by assumption) ?_
        rotate_left 1
        · intro w hSw; (try dsimp only at hSw); go_simp; try with_reducible rfl
        (try simp only [Act.put, List.setIfInBounds_toArray, List.set_cons_zero, List.set_cons_succ])
        refine wpAnyH_take (i := 2) (oi := ({ dst := some 102, op := Op.binOp BinOp.geq 3 (Operand.tmp 101) (Operand.const (Value.int IntKind.i64 0)) 3, type := 4, pos := "law.go:59", after := #[{ on := 1, ground := Ground.data }], guard := none } : Oper)) (v := ?_) rfl (by kernel_rfl) (by kernel_rfl) (by kernel_rfl) (fun _ _ _ h => h) (Or.inl ⟨by rfl, ?_⟩) (by assumption) ?_
        rotate_left 1
        · intro w hSw; (try dsimp only at hSw); go_simp; try with_reducible rfl
        (try simp only [Act.put, List.setIfInBounds_toArray, List.set_cons_zero, List.set_cons_succ])
        refine wpAnyH_take (i := 3) (oi := ({ dst := some 103, op := Op.binOp BinOp.neq 4 (Operand.tmp 100) (Operand.tmp 102) 4, type := 4, pos := "law.go:59", after := #[{ on := 0, ground := Ground.data }, { on := 2, ground := Ground.data }], guard := none } : Oper)) (v := ?_) rfl (by kernel_rfl) (by kernel_rfl) (by kernel_rfl) (fun _ _ _ h => h) (Or.inl ⟨by rfl, ?_⟩) (by assumption) ?_
        rotate_left 1
        · intro w hSw; (try dsimp only at hSw); go_simp; try with_reducible rfl
        (try simp only [Act.put, List.setIfInBounds_toArray, List.set_cons_zero, List.set_cons_succ])
        refine wpAnyH_take (i := 4) (oi := ({ dst := some 104, op := Op.move (Operand.tmp 103), type := 4, pos := "law.go:59", after := #[{ on := 3, ground := Ground.data }], guard := none } : Oper)) (v := ?_) rfl (by kernel_rfl) (by kernel_rfl) (by kernel_rfl) (fun _ _ _ h => h) (Or.inl ⟨by rfl, ?_⟩) (by assumption) ?_
        rotate_left 1
        · intro w hSw; (try dsimp only at hSw); go_simp; try with_reducible rfl
        (try simp only [Act.put, List.setIfInBounds_toArray, List.set_cons_zero, List.set_cons_succ])
        refine wpAnyH_take (i := 5) (oi := ({ dst := some 105, op := Op.move (Operand.tmp 8), type := 4, pos := "law.go:59", after := #[{ on := 4, ground := Ground.guard }], guard := some (4, false) } : Oper)) (v := ?_) rfl (by kernel_rfl) (by kernel_rfl) (by kernel_rfl) (fun _ _ _ h => h) (Or.inl ⟨by rfl, ?_⟩) (by assumption) ?_
        rotate_left 1
        · intro w hSw; (try dsimp only at hSw); go_simp; try with_reducible rfl
        (try simp only [Act.put, List.setIfInBounds_toArray, List.set_cons_zero, List.set_cons_succ])
        refine wpAnyH_take (i := 6) (oi := ({ dst := some 106, op := Op.move (Operand.tmp 105), type := 4, pos := "law.go:59", after := #[{ on := 5, ground := Ground.data }, { on := 4, ground := Ground.chain }, { on := 4, ground := Ground.guard }], guard := some (4, false) } : Oper)) (v := ?_) rfl (by kernel_rfl) (by kernel_rfl) (by kernel_rfl) (fun _ _ _ h => h) (Or.inl ⟨by rfl, ?_⟩) (by assumption) ?_
        rotate_left 1
        · intro w hSw; (try dsimp only at hSw); go_simp; try with_reducible rfl
        (try simp only [Act.put, List.setIfInBounds_toArray, List.set_cons_zero, List.set_cons_succ])
        refine wpAnyH_take (i := 7) (oi := ({ dst := some 107, op := Op.load 46 (Operand.tmp 10), type := 46, pos := "law.go:59", after := #[{ on := 6, ground := Ground.guard }], guard := some (6, true) } : Oper)) (v := ?_) rfl (by kernel_rfl) (by kernel_rfl) (by kernel_rfl) (fun _ _ _ h => h) (Or.inl ⟨by rfl, ?_⟩) (by assumption) ?_
        rotate_left 1
        · intro w hSw; (try dsimp only at hSw); go_simp; try with_reducible rfl
        (try simp only [Act.put, List.setIfInBounds_toArray, List.set_cons_zero, List.set_cons_succ])
        refine wpAnyH_take (i := 8) (oi := ({ dst := some 108, op := Op.move (Operand.tmp 0), type := 22, pos := "law.go:59", after := #[{ on := 6, ground := Ground.guard }], guard := some (6, true) } : Oper)) (v := ?_) rfl (by kernel_rfl) (by kernel_rfl) (by kernel_rfl) (fun _ _ _ h => h) (Or.inl ⟨by rfl, ?_⟩) (by assumption) ?_
        rotate_left 1
        · intro w hSw; (try dsimp only at hSw); go_simp; try with_reducible rfl
        (try simp only [Act.put, List.setIfInBounds_toArray, List.set_cons_zero, List.set_cons_succ])
        refine wpAnyH_take (i := 10) (oi := ({ dst := some 110, op := Op.move (Operand.tmp 11), type := 3, pos := "law.go:59", after := #[{ on := 6, ground := Ground.guard }], guard := some (6, true) } : Oper)) (v := ?_) rfl (by kernel_rfl) (by kernel_rfl) (by kernel_rfl) (fun _ _ _ h => h) (Or.inl ⟨by rfl, ?_⟩) (by assumption) ?_
        rotate_left 1
        · intro w hSw; (try dsimp only at hSw); go_simp; try with_reducible rfl
        (try simp only [Act.put, List.setIfInBounds_toArray, List.set_cons_zero, List.set_cons_succ])
        --END
        refine wpAnyH_ready (rs := [9]) (by kernel_rfl) (by simp) ?_
        refine AllReadyH.cons (o := _) rfl (fun K hK => ?_) AllReadyH.nil
        go_simp
        refine C.out.mono ?_
        rintro e w9 ⟨A9, c9, rfl, ho, hB9⟩
        have hB9' : Below w21.heap.size w21 w9 := (show Below w21.heap.size w21 w21.drew from (Below.refl _ _).drew).trans hB9
        obtain ⟨a9, x9, hA9, hx9, gx⟩ := (EnsAt.of_own ho).2 j hjl
        rw [hj] at hx9
        cases hx9
        obtain ⟨_, r0, r1, r2, r3, r4, r5⟩ := gx
        dsimp only at r0 r1 r2 r3 r4 r5
        subst hA9
        have HB9 := Lib.hid hB9'
        have hS9 := HSB.out _ hB9'
        have b1 : (j : Int) < ((entsR (l.map Dc.pl) true).length : Int) := by omega
        dsimp only
        refine hK.out _ _ hS9 (fun hHeld => ?_)
        clear hK K C ho hB9 hB9' HSB
        generalize (entsR (l.map Dc.pl) true).length = en at *
        (try simp only [Act.put, List.setIfInBounds_toArray, List.set_cons_zero, List.set_cons_succ])
        refine wpAnyH_moreD (S' := fun V => (V.cell? ⟨w19.heap.size, 0, none⟩ = some (.string ea) ∧ V.cell? ⟨w19.heap.size, 1, none⟩ = some (.string eb) ∧ V.cell? ⟨w19.heap.size, 2, none⟩ = some (.bool ec) ∧ V.cell? ⟨w19.heap.size, 3, none⟩ = some (.string ed) ∧ V.cell? ⟨w19.heap.size, 4, none⟩ = some (.string ee) ∧ V.cell? ⟨w19.heap.size, 5, none⟩ = some (.string ef)) ∧ V.cell? (a9.add (j * 6)) = some (.string ea) ∧ V.cell? ⟨(a9.add (j * 6)).block, (a9.add (j * 6)).off + 1, none⟩ = some (.string eb) ∧ V.cell? ⟨(a9.add (j * 6)).block, (a9.add (j * 6)).off + 2, none⟩ = some (.bool ec) ∧ V.cell? ⟨(a9.add (j * 6)).block, (a9.add (j * 6)).off + 3, none⟩ = some (.string ed) ∧ V.cell? ⟨(a9.add (j * 6)).block, (a9.add (j * 6)).off + 4, none⟩ = some (.string ee) ∧ V.cell? ⟨(a9.add (j * 6)).block, (a9.add (j * 6)).off + 5, none⟩ = some (.string ef)) (fun _ h => h.1) _ _ _ _ ?_
        clear hHeld
        have hHeld2 := And.intro hS9 (And.intro r0 (And.intro r1 (And.intro r2 (And.intro r3 (And.intro r4 r5)))))
        clear hS9
        --TAKES narthex/narthexlaw17.DtdKeeps:12 11..19 -20 -21 -22 23 24
        refine wpAnyH_take (i := 11) (oi := ({ dst := some 111, op := Op.indexAddr 37 (Operand.tmp 109) (Operand.tmp 110), type := 0, pos := "law.go:59", after := #[{ on := 9, ground := Ground.data }, { on := 10, ground := Ground.data }, { on := 6, ground := Ground.guard }], guard := some (6, true) } : Oper)) (v := ?_) rfl (by kernel_rfl) (by kernel_rfl) (by kernel_rfl) (fun _ _ _ h => h) (Or.inl ⟨by rfl, ?_⟩) (by assumption) ?_
        rotate_left 1
        · intro w hSw; (try dsimp only at hSw); go_simp; try with_reducible rfl
        (try simp only [Act.put, List.setIfInBounds_toArray, List.set_cons_zero, List.set_cons_succ])
        refine wpAnyH_take (i := 12) (oi := ({ dst := some 112, op := Op.load 46 (Operand.tmp 111), type := 46, pos := "law.go:59", after := #[{ on := 11, ground := Ground.data }, { on := 6, ground := Ground.guard }], guard := some (6, true) } : Oper)) (v := ?_) rfl (by kernel_rfl) (by kernel_rfl) (by kernel_rfl) (fun _ _ _ h => h) (Or.inl ⟨by rfl, ?_⟩) (by assumption) ?_
        rotate_left 1
        · intro w hSw; (try dsimp only at hSw); go_simp; try with_reducible rfl
        (try simp only [Act.put, List.setIfInBounds_toArray, List.set_cons_zero, List.set_cons_succ])
        refine wpAnyH_take (i := 13) (oi := ({ dst := some 113, op := Op.binOp BinOp.neq 46 (Operand.tmp 107) (Operand.tmp 112) 46, type := 4, pos := "law.go:59", after := #[{ on := 7, ground := Ground.data }, { on := 12, ground := Ground.data }, { on := 6, ground := Ground.guard }], guard := some (6, true) } : Oper)) (v := ?_) rfl (by kernel_rfl) (by kernel_rfl) (by kernel_rfl) (fun _ _ _ h => h) (Or.inl ⟨by rfl, ?_⟩) (by assumption) ?_
        rotate_left 1
        · intro w hSw; (try dsimp only at hSw); go_simp; try with_reducible rfl
        (try simp only [Act.put, List.setIfInBounds_toArray, List.set_cons_zero, List.set_cons_succ])
        refine wpAnyH_take (i := 14) (oi := ({ dst := some 114, op := Op.pick (Operand.tmp 106) (Operand.tmp 113) (Operand.const (Value.bool false)), type := 4, pos := "law.go:59", after := #[{ on := 6, ground := Ground.data }, { on := 13, ground := Ground.data }, { on := 4, ground := Ground.guard }], guard := some (4, false) } : Oper)) (v := ?_) rfl (by kernel_rfl) (by kernel_rfl) (by kernel_rfl) (fun _ _ _ h => h) (Or.inl ⟨by rfl, ?_⟩) (by assumption) ?_
        rotate_left 1
        · intro w hSw; (try dsimp only at hSw); go_simp; try with_reducible rfl
        (try simp only [Act.put, List.setIfInBounds_toArray, List.set_cons_zero, List.set_cons_succ])
        refine wpAnyH_take (i := 15) (oi := ({ dst := some 115, op := Op.pick (Operand.tmp 104) (Operand.const (Value.bool true)) (Operand.tmp 114), type := 4, pos := "law.go:59", after := #[{ on := 4, ground := Ground.data }, { on := 14, ground := Ground.data }], guard := none } : Oper)) (v := ?_) rfl (by kernel_rfl) (by kernel_rfl) (by kernel_rfl) (fun _ _ _ h => h) (Or.inl ⟨by rfl, ?_⟩) (by assumption) ?_
        rotate_left 1
        · intro w hSw; (try dsimp only at hSw); go_simp; try with_reducible rfl
        (try simp only [Act.put, List.setIfInBounds_toArray, List.set_cons_zero, List.set_cons_succ])
        refine wpAnyH_take (i := 16) (oi := ({ dst := some 116, op := Op.move (Operand.tmp 115), type := 4, pos := "law.go:59", after := #[{ on := 15, ground := Ground.data }, { on := 9, ground := Ground.chain }], guard := none } : Oper)) (v := ?_) rfl (by kernel_rfl) (by kernel_rfl) (by kernel_rfl) (fun _ _ _ h => h) (Or.inl ⟨by rfl, ?_⟩) (by assumption) ?_
        rotate_left 1
        · intro w hSw; (try dsimp only at hSw); go_simp; try with_reducible rfl
        (try simp only [Act.put, List.setIfInBounds_toArray, List.set_cons_zero, List.set_cons_succ])
        refine wpAnyH_take (i := 17) (oi := ({ dst := some 117, op := Op.move (Operand.tmp 8), type := 4, pos := "law.go:59", after := #[{ on := 16, ground := Ground.guard }], guard := some (16, false) } : Oper)) (v := ?_) rfl (by kernel_rfl) (by kernel_rfl) (by kernel_rfl) (fun _ _ _ h => h) (Or.inl ⟨by rfl, ?_⟩) (by assumption) ?_
        rotate_left 1
        · intro w hSw; (try dsimp only at hSw); go_simp; try with_reducible rfl
        (try simp only [Act.put, List.setIfInBounds_toArray, List.set_cons_zero, List.set_cons_succ])
        refine wpAnyH_take (i := 18) (oi := ({ dst := some 118, op := Op.unOp UnOp.not 4 (Operand.tmp 117), type := 4, pos := "law.go:59", after := #[{ on := 17, ground := Ground.data }, { on := 16, ground := Ground.guard }], guard := some (16, false) } : Oper)) (v := ?_) rfl (by kernel_rfl) (by kernel_rfl) (by kernel_rfl) (fun _ _ _ h => h) (Or.inl ⟨by rfl, ?_⟩) (by assumption) ?_
        rotate_left 1
        · intro w hSw; (try dsimp only at hSw); go_simp; try with_reducible rfl
        (try simp only [Act.put, List.setIfInBounds_toArray, List.set_cons_zero, List.set_cons_succ])
        refine wpAnyH_take (i := 19) (oi := ({ dst := some 119, op := Op.move (Operand.tmp 118), type := 4, pos := "law.go:59", after := #[{ on := 18, ground := Ground.data }, { on := 16, ground := Ground.chain }, { on := 16, ground := Ground.guard }], guard := some (16, false) } : Oper)) (v := ?_) rfl (by kernel_rfl) (by kernel_rfl) (by kernel_rfl) (fun _ _ _ h => h) (Or.inl ⟨by rfl, ?_⟩) (by assumption) ?_
        rotate_left 1
        · intro w hSw; (try dsimp only at hSw); go_simp; try with_reducible rfl
        (try simp only [Act.put, List.setIfInBounds_toArray, List.set_cons_zero, List.set_cons_succ])
        refine wpAnyH_take (i := 20) (oi := ({ dst := some 120, op := Op.load 46 (Operand.tmp 10), type := 46, pos := "law.go:59", after := #[{ on := 19, ground := Ground.guard }], guard := some (19, true) } : Oper)) (v := undef) rfl (by kernel_rfl) (by kernel_rfl) (by kernel_rfl) (fun _ _ _ h => h) (Or.inr ⟨by rfl, rfl⟩) (by assumption) ?_
        (try simp only [Act.put, List.setIfInBounds_toArray, List.set_cons_zero, List.set_cons_succ])
        refine wpAnyH_take (i := 21) (oi := ({ dst := some 121, op := Op.build 46 #[], type := 46, pos := "law.go:59", after := #[{ on := 19, ground := Ground.guard }], guard := some (19, true) } : Oper)) (v := undef) rfl (by kernel_rfl) (by kernel_rfl) (by kernel_rfl) (fun _ _ _ h => h) (Or.inr ⟨by rfl, rfl⟩) (by assumption) ?_
        (try simp only [Act.put, List.setIfInBounds_toArray, List.set_cons_zero, List.set_cons_succ])
        refine wpAnyH_take (i := 22) (oi := ({ dst := some 122, op := Op.binOp BinOp.neq 46 (Operand.tmp 120) (Operand.tmp 121) 46, type := 4, pos := "law.go:59", after := #[{ on := 20, ground := Ground.data }, { on := 21, ground := Ground.data }, { on := 19, ground := Ground.guard }], guard := some (19, true) } : Oper)) (v := undef) rfl (by kernel_rfl) (by kernel_rfl) (by kernel_rfl) (fun _ _ _ h => h) (Or.inr ⟨by rfl, rfl⟩) (by assumption) ?_
        (try simp only [Act.put, List.setIfInBounds_toArray, List.set_cons_zero, List.set_cons_succ])
        refine wpAnyH_take (i := 23) (oi := ({ dst := some 123, op := Op.pick (Operand.tmp 119) (Operand.tmp 122) (Operand.const (Value.bool false)), type := 4, pos := "law.go:59", after := #[{ on := 19, ground := Ground.data }, { on := 22, ground := Ground.data }, { on := 16, ground := Ground.guard }], guard := some (16, false) } : Oper)) (v := ?_) rfl (by kernel_rfl) (by kernel_rfl) (by kernel_rfl) (fun _ _ _ h => h) (Or.inl ⟨by rfl, ?_⟩) (by assumption) ?_
        rotate_left 1
        · intro w hSw; (try dsimp only at hSw); go_simp; try with_reducible rfl
        (try simp only [Act.put, List.setIfInBounds_toArray, List.set_cons_zero, List.set_cons_succ])
        refine wpAnyH_take (i := 24) (oi := ({ dst := some 124, op := Op.pick (Operand.tmp 116) (Operand.const (Value.bool true)) (Operand.tmp 123), type := 4, pos := "law.go:59", after := #[{ on := 16, ground := Ground.data }, { on := 23, ground := Ground.data }], guard := none } : Oper)) (v := ?_) rfl (by kernel_rfl) (by kernel_rfl) (by kernel_rfl) (fun _ _ _ h => h) (Or.inl ⟨by rfl, ?_⟩) (by assumption) ?_
        rotate_left 1
        · intro w hSw; (try dsimp only at hSw); go_simp; try with_reducible rfl
        (try simp only [Act.put, List.setIfInBounds_toArray, List.set_cons_zero, List.set_cons_succ])
        --END
        refine wpAnyH_done (by kernel_rfl) ?_ _
        clear hHeld2
        go_wp2
        go_meet
        case rel => exact ⟨rfl, HB9⟩
      | false =>
        obtain ⟨hI, hE⟩ := FE.out.no rfl
        injection hE with h1 h2 h3 h4 h5 h6
        subst h1 h2 h3 h4 h5 h6 hI
        have q1 := neqZero
        have HB9 := Lib.hid (show Below w21.heap.size w21 w21.drew from (Below.refl _ _).drew)
        refine wp_region_held_drew (S := fun V => V.cell? ⟨w19.heap.size, 0, none⟩ = some (.string ⟨#[]⟩) ∧ V.cell? ⟨w19.heap.size, 1, none⟩ = some (.string ⟨#[]⟩) ∧ V.cell? ⟨w19.heap.size, 2, none⟩ = some (.bool false) ∧ V.cell? ⟨w19.heap.size, 3, none⟩ = some (.string ⟨#[]⟩) ∧ V.cell? ⟨w19.heap.size, 4, none⟩ = some (.string ⟨#[]⟩) ∧ V.cell? ⟨w19.heap.size, 5, none⟩ = some (.string ⟨#[]⟩)) (by kernel_rfl) (HSB.out _ (Below.refl _ _).drew) (fun hHeld => ?_)
        clear HSB
        --TAKES narthex/narthexlaw17.DtdKeeps:12 0..6 -7 -8 -9 -10 -11 -12 -13 14..24
        refine wpAnyH_take (i := 0) (oi := ({ dst := some 100, op := Op.move (Operand.tmp 8), type := 4, pos := "law.go:59", after := #[], guard := none } : Oper)) (v := ?_) rfl (by kernel_rfl) (by kernel_rfl) (by kernel_rfl) (fun _ _ _ h => h) (Or.inl ⟨by rfl, ?_⟩) (by assumption) ?_
        rotate_left 1
        · intro w hSw; (try dsimp only at hSw); go_simp; try with_reducible rfl
        (try simp only [Act.put, List.setIfInBounds_toArray, List.set_cons_zero, List.set_cons_succ])
        refine wpAnyH_take (i := 1) (oi := ({ dst := some 101, op := Op.move (Operand.tmp 11), type := 3, pos := "law.go:59", after := #[], guard := none } : Oper)) (v := ?_) rfl (by kernel_rfl) (by kernel_rfl) (by kernel_rfl) (fun _ _ _ h => h) (Or.inl ⟨by rfl, ?_⟩) (by assumption) ?_
        rotate_left 1
        · intro w hSw; (try dsimp only at hSw); go_simp; try with_reducible rfl
        (try simp only [Act.put, List.setIfInBounds_toArray, List.set_cons_zero, List.set_cons_succ])
        refine wpAnyH_take (i := 2) (oi := ({ dst := some 102, op := Op.binOp BinOp.geq 3 (Operand.tmp 101) (Operand.const (Value.int IntKind.i64 0)) 3, type := 4, pos := "law.go:59", after := #[{ on := 1, ground := Ground.data }], guard := none } : Oper)) (v := ?_) rfl (by kernel_rfl) (by kernel_rfl) (by kernel_rfl) (fun _ _ _ h => h) (Or.inl ⟨by rfl, ?_⟩) (by assumption) ?_
        rotate_left 1
        · intro w hSw; (try dsimp only at hSw); go_simp; try with_reducible rfl
        (try simp only [Act.put, List.setIfInBounds_toArray, List.set_cons_zero, List.set_cons_succ])
        refine wpAnyH_take (i := 3) (oi := ({ dst := some 103, op := Op.binOp BinOp.neq 4 (Operand.tmp 100) (Operand.tmp 102) 4, type := 4, pos := "law.go:59", after := #[{ on := 0, ground := Ground.data }, { on := 2, ground := Ground.data }], guard := none } : Oper)) (v := ?_) rfl (by kernel_rfl) (by kernel_rfl) (by kernel_rfl) (fun _ _ _ h => h) (Or.inl ⟨by rfl, ?_⟩) (by assumption) ?_
        rotate_left 1
        · intro w hSw; (try dsimp only at hSw); go_simp; try with_reducible rfl
        (try simp only [Act.put, List.setIfInBounds_toArray, List.set_cons_zero, List.set_cons_succ])
        refine wpAnyH_take (i := 4) (oi := ({ dst := some 104, op := Op.move (Operand.tmp 103), type := 4, pos := "law.go:59", after := #[{ on := 3, ground := Ground.data }], guard := none } : Oper)) (v := ?_) rfl (by kernel_rfl) (by kernel_rfl) (by kernel_rfl) (fun _ _ _ h => h) (Or.inl ⟨by rfl, ?_⟩) (by assumption) ?_
        rotate_left 1
        · intro w hSw; (try dsimp only at hSw); go_simp; try with_reducible rfl
        (try simp only [Act.put, List.setIfInBounds_toArray, List.set_cons_zero, List.set_cons_succ])
        refine wpAnyH_take (i := 5) (oi := ({ dst := some 105, op := Op.move (Operand.tmp 8), type := 4, pos := "law.go:59", after := #[{ on := 4, ground := Ground.guard }], guard := some (4, false) } : Oper)) (v := ?_) rfl (by kernel_rfl) (by kernel_rfl) (by kernel_rfl) (fun _ _ _ h => h) (Or.inl ⟨by rfl, ?_⟩) (by assumption) ?_
        rotate_left 1
        · intro w hSw; (try dsimp only at hSw); go_simp; try with_reducible rfl
        (try simp only [Act.put, List.setIfInBounds_toArray, List.set_cons_zero, List.set_cons_succ])
        refine wpAnyH_take (i := 6) (oi := ({ dst := some 106, op := Op.move (Operand.tmp 105), type := 4, pos := "law.go:59", after := #[{ on := 5, ground := Ground.data }, { on := 4, ground := Ground.chain }, { on := 4, ground := Ground.guard }], guard := some (4, false) } : Oper)) (v := ?_) rfl (by kernel_rfl) (by kernel_rfl) (by kernel_rfl) (fun _ _ _ h => h) (Or.inl ⟨by rfl, ?_⟩) (by assumption) ?_
        rotate_left 1
        · intro w hSw; (try dsimp only at hSw); go_simp; try with_reducible rfl
        (try simp only [Act.put, List.setIfInBounds_toArray, List.set_cons_zero, List.set_cons_succ])
        refine wpAnyH_take (i := 7) (oi := ({ dst := some 107, op := Op.load 46 (Operand.tmp 10), type := 46, pos := "law.go:59", after := #[{ on := 6, ground := Ground.guard }], guard := some (6, true) } : Oper)) (v := undef) rfl (by kernel_rfl) (by kernel_rfl) (by kernel_rfl) (fun _ _ _ h => h) (Or.inr ⟨by rfl, rfl⟩) (by assumption) ?_
        (try simp only [Act.put, List.setIfInBounds_toArray, List.set_cons_zero, List.set_cons_succ])
        refine wpAnyH_take (i := 8) (oi := ({ dst := some 108, op := Op.move (Operand.tmp 0), type := 22, pos := "law.go:59", after := #[{ on := 6, ground := Ground.guard }], guard := some (6, true) } : Oper)) (v := undef) rfl (by kernel_rfl) (by kernel_rfl) (by kernel_rfl) (fun _ _ _ h => h) (Or.inr ⟨by rfl, rfl⟩) (by assumption) ?_
        (try simp only [Act.put, List.setIfInBounds_toArray, List.set_cons_zero, List.set_cons_succ])
        refine wpAnyH_take (i := 9) (oi := ({ dst := some 109, op := Op.call { callee := Callee.value (Operand.func 16), args := #[Operand.tmp 108, Operand.const (Value.bool true)], argTypes := #[22, 4] }, type := 37, pos := "law.go:59", after := #[{ on := 8, ground := Ground.data }, { on := 6, ground := Ground.chain }, { on := 6, ground := Ground.guard }], guard := some (6, true) } : Oper)) (v := undef) rfl (by kernel_rfl) (by kernel_rfl) (by kernel_rfl) (fun _ _ _ h => h) (Or.inr ⟨by rfl, rfl⟩) (by assumption) ?_
        (try simp only [Act.put, List.setIfInBounds_toArray, List.set_cons_zero, List.set_cons_succ])
        refine wpAnyH_take (i := 10) (oi := ({ dst := some 110, op := Op.move (Operand.tmp 11), type := 3, pos := "law.go:59", after := #[{ on := 6, ground := Ground.guard }], guard := some (6, true) } : Oper)) (v := undef) rfl (by kernel_rfl) (by kernel_rfl) (by kernel_rfl) (fun _ _ _ h => h) (Or.inr ⟨by rfl, rfl⟩) (by assumption) ?_
        (try simp only [Act.put, List.setIfInBounds_toArray, List.set_cons_zero, List.set_cons_succ])
        refine wpAnyH_take (i := 11) (oi := ({ dst := some 111, op := Op.indexAddr 37 (Operand.tmp 109) (Operand.tmp 110), type := 0, pos := "law.go:59", after := #[{ on := 9, ground := Ground.data }, { on := 10, ground := Ground.data }, { on := 6, ground := Ground.guard }], guard := some (6, true) } : Oper)) (v := undef) rfl (by kernel_rfl) (by kernel_rfl) (by kernel_rfl) (fun _ _ _ h => h) (Or.inr ⟨by rfl, rfl⟩) (by assumption) ?_
        (try simp only [Act.put, List.setIfInBounds_toArray, List.set_cons_zero, List.set_cons_succ])
        refine wpAnyH_take (i := 12) (oi := ({ dst := some 112, op := Op.load 46 (Operand.tmp 111), type := 46, pos := "law.go:59", after := #[{ on := 11, ground := Ground.data }, { on := 6, ground := Ground.guard }], guard := some (6, true) } : Oper)) (v := undef) rfl (by kernel_rfl) (by kernel_rfl) (by kernel_rfl) (fun _ _ _ h => h) (Or.inr ⟨by rfl, rfl⟩) (by assumption) ?_
        (try simp only [Act.put, List.setIfInBounds_toArray, List.set_cons_zero, List.set_cons_succ])
        refine wpAnyH_take (i := 13) (oi := ({ dst := some 113, op := Op.binOp BinOp.neq 46 (Operand.tmp 107) (Operand.tmp 112) 46, type := 4, pos := "law.go:59", after := #[{ on := 7, ground := Ground.data }, { on := 12, ground := Ground.data }, { on := 6, ground := Ground.guard }], guard := some (6, true) } : Oper)) (v := undef) rfl (by kernel_rfl) (by kernel_rfl) (by kernel_rfl) (fun _ _ _ h => h) (Or.inr ⟨by rfl, rfl⟩) (by assumption) ?_
        (try simp only [Act.put, List.setIfInBounds_toArray, List.set_cons_zero, List.set_cons_succ])
        refine wpAnyH_take (i := 14) (oi := ({ dst := some 114, op := Op.pick (Operand.tmp 106) (Operand.tmp 113) (Operand.const (Value.bool false)), type := 4, pos := "law.go:59", after := #[{ on := 6, ground := Ground.data }, { on := 13, ground := Ground.data }, { on := 4, ground := Ground.guard }], guard := some (4, false) } : Oper)) (v := ?_) rfl (by kernel_rfl) (by kernel_rfl) (by kernel_rfl) (fun _ _ _ h => h) (Or.inl ⟨by rfl, ?_⟩) (by assumption) ?_
        rotate_left 1
        · intro w hSw; (try dsimp only at hSw); go_simp; try with_reducible rfl
        (try simp only [Act.put, List.setIfInBounds_toArray, List.set_cons_zero, List.set_cons_succ])
        refine wpAnyH_take (i := 15) (oi := ({ dst := some 115, op := Op.pick (Operand.tmp 104) (Operand.const (Value.bool true)) (Operand.tmp 114), type := 4, pos := "law.go:59", after := #[{ on := 4, ground := Ground.data }, { on := 14, ground := Ground.data }], guard := none } : Oper)) (v := ?_) rfl (by kernel_rfl) (by kernel_rfl) (by kernel_rfl) (fun _ _ _ h => h) (Or.inl ⟨by rfl, ?_⟩) (by assumption) ?_
        rotate_left 1
        · intro w hSw; (try dsimp only at hSw); go_simp; try with_reducible rfl
        (try simp only [Act.put, List.setIfInBounds_toArray, List.set_cons_zero, List.set_cons_succ])
        refine wpAnyH_take (i := 16) (oi := ({ dst := some 116, op := Op.move (Operand.tmp 115), type := 4, pos := "law.go:59", after := #[{ on := 15, ground := Ground.data }, { on := 9, ground := Ground.chain }], guard := none } : Oper)) (v := ?_) rfl (by kernel_rfl) (by kernel_rfl) (by kernel_rfl) (fun _ _ _ h => h) (Or.inl ⟨by rfl, ?_⟩) (by assumption) ?_
        rotate_left 1
        · intro w hSw; (try dsimp only at hSw); go_simp; try with_reducible rfl
        (try simp only [Act.put, List.setIfInBounds_toArray, List.set_cons_zero, List.set_cons_succ])
        refine wpAnyH_take (i := 17) (oi := ({ dst := some 117, op := Op.move (Operand.tmp 8), type := 4, pos := "law.go:59", after := #[{ on := 16, ground := Ground.guard }], guard := some (16, false) } : Oper)) (v := ?_) rfl (by kernel_rfl) (by kernel_rfl) (by kernel_rfl) (fun _ _ _ h => h) (Or.inl ⟨by rfl, ?_⟩) (by assumption) ?_
        rotate_left 1
        · intro w hSw; (try dsimp only at hSw); go_simp; try with_reducible rfl
        (try simp only [Act.put, List.setIfInBounds_toArray, List.set_cons_zero, List.set_cons_succ])
        refine wpAnyH_take (i := 18) (oi := ({ dst := some 118, op := Op.unOp UnOp.not 4 (Operand.tmp 117), type := 4, pos := "law.go:59", after := #[{ on := 17, ground := Ground.data }, { on := 16, ground := Ground.guard }], guard := some (16, false) } : Oper)) (v := ?_) rfl (by kernel_rfl) (by kernel_rfl) (by kernel_rfl) (fun _ _ _ h => h) (Or.inl ⟨by rfl, ?_⟩) (by assumption) ?_
        rotate_left 1
        · intro w hSw; (try dsimp only at hSw); go_simp; try with_reducible rfl
        (try simp only [Act.put, List.setIfInBounds_toArray, List.set_cons_zero, List.set_cons_succ])
        refine wpAnyH_take (i := 19) (oi := ({ dst := some 119, op := Op.move (Operand.tmp 118), type := 4, pos := "law.go:59", after := #[{ on := 18, ground := Ground.data }, { on := 16, ground := Ground.chain }, { on := 16, ground := Ground.guard }], guard := some (16, false) } : Oper)) (v := ?_) rfl (by kernel_rfl) (by kernel_rfl) (by kernel_rfl) (fun _ _ _ h => h) (Or.inl ⟨by rfl, ?_⟩) (by assumption) ?_
        rotate_left 1
        · intro w hSw; (try dsimp only at hSw); go_simp; try with_reducible rfl
        (try simp only [Act.put, List.setIfInBounds_toArray, List.set_cons_zero, List.set_cons_succ])
        refine wpAnyH_take (i := 20) (oi := ({ dst := some 120, op := Op.load 46 (Operand.tmp 10), type := 46, pos := "law.go:59", after := #[{ on := 19, ground := Ground.guard }], guard := some (19, true) } : Oper)) (v := ?_) rfl (by kernel_rfl) (by kernel_rfl) (by kernel_rfl) (fun _ _ _ h => h) (Or.inl ⟨by rfl, ?_⟩) (by assumption) ?_
        rotate_left 1
        · intro w hSw; (try dsimp only at hSw); go_simp; try with_reducible rfl
        (try simp only [Act.put, List.setIfInBounds_toArray, List.set_cons_zero, List.set_cons_succ])
        refine wpAnyH_take (i := 21) (oi := ({ dst := some 121, op := Op.build 46 #[], type := 46, pos := "law.go:59", after := #[{ on := 19, ground := Ground.guard }], guard := some (19, true) } : Oper)) (v := ?_) rfl (by kernel_rfl) (by kernel_rfl) (by kernel_rfl) (fun _ _ _ h => h) (Or.inl ⟨by rfl, ?_⟩) (by assumption) ?_
        rotate_left 1
        · intro w hSw; (try dsimp only at hSw); go_simp; try with_reducible rfl
        (try simp only [Act.put, List.setIfInBounds_toArray, List.set_cons_zero, List.set_cons_succ])
        refine wpAnyH_take (i := 22) (oi := ({ dst := some 122, op := Op.binOp BinOp.neq 46 (Operand.tmp 120) (Operand.tmp 121) 46, type := 4, pos := "law.go:59", after := #[{ on := 20, ground := Ground.data }, { on := 21, ground := Ground.data }, { on := 19, ground := Ground.guard }], guard := some (19, true) } : Oper)) (v := ?_) rfl (by kernel_rfl) (by kernel_rfl) (by kernel_rfl) (fun _ _ _ h => h) (Or.inl ⟨by rfl, ?_⟩) (by assumption) ?_
        rotate_left 1
        · intro w hSw; (try dsimp only at hSw); go_simp; try with_reducible rfl
        (try simp only [Act.put, List.setIfInBounds_toArray, List.set_cons_zero, List.set_cons_succ])
        refine wpAnyH_take (i := 23) (oi := ({ dst := some 123, op := Op.pick (Operand.tmp 119) (Operand.tmp 122) (Operand.const (Value.bool false)), type := 4, pos := "law.go:59", after := #[{ on := 19, ground := Ground.data }, { on := 22, ground := Ground.data }, { on := 16, ground := Ground.guard }], guard := some (16, false) } : Oper)) (v := ?_) rfl (by kernel_rfl) (by kernel_rfl) (by kernel_rfl) (fun _ _ _ h => h) (Or.inl ⟨by rfl, ?_⟩) (by assumption) ?_
        rotate_left 1
        · intro w hSw; (try dsimp only at hSw); go_simp; try with_reducible rfl
        (try simp only [Act.put, List.setIfInBounds_toArray, List.set_cons_zero, List.set_cons_succ])
        refine wpAnyH_take (i := 24) (oi := ({ dst := some 124, op := Op.pick (Operand.tmp 116) (Operand.const (Value.bool true)) (Operand.tmp 123), type := 4, pos := "law.go:59", after := #[{ on := 16, ground := Ground.data }, { on := 23, ground := Ground.data }], guard := none } : Oper)) (v := ?_) rfl (by kernel_rfl) (by kernel_rfl) (by kernel_rfl) (fun _ _ _ h => h) (Or.inl ⟨by rfl, ?_⟩) (by assumption) ?_
        rotate_left 1
        · intro w hSw; (try dsimp only at hSw); go_simp; try with_reducible rfl
        (try simp only [Act.put, List.setIfInBounds_toArray, List.set_cons_zero, List.set_cons_succ])
        --END
        refine wpAnyH_done (by kernel_rfl) ?_ _
        clear hHeld
        go_wp2
        go_meet
        case rel => exact ⟨rfl, HB9⟩
    case rest =>
    obtain ⟨rfl, HBc⟩ := hcut
    have HT := Lib.hid (HT.out.below HBc.out)
    have HB := Lib.hid (HB.out.trans (HBc.out.mono HB.out.size))
    clear HBc HSB FE
    have C := notation_any HT.out s HSS.out (by have := HNL.out; omega)
    unfold TellN at C
    have FN := foundN (l.map Dc.pl) s
    have hnn : T.nots = (tabR (l.map Dc.pl)).nots := congrArg TSt.nots HST.out
    rw [← hnn] at FN
    generalize findN T.nots s = E at *
    generalize hasT (T.nots.map (·.1)) s = ok at *
    have FN := Lib.hid FN
    have C := Lib.hid C
    clear hnn
    obtain ⟨ea, eb⟩ := E
    go_wp2_with fail
    refine C.out.mono ?_
    rintro e w24 ⟨rfl, hB⟩
    clear C
    have HT := Lib.hid (HT.out.below hB)
    have HB := Lib.hid (HB.out.trans (hB.mono HB.out.size))
    clear hB
    obtain ⟨w25, hW, hs, hBW, bx⟩ := boxWorld w24 #[.string ea, .string eb] 44
    have HW := Lib.hid hW
    have BX := Lib.hid bx
    have HT := Lib.hid (HT.out.below hBW)
    have HB := Lib.hid (HB.out.trans (hBW.mono HB.out.size))
    clear hBW hW hs bx
    dsimp only
    go_upto_region 15 with (fail)
    rw [HW.out]
    clear HW
    have C := Lib.hid (rnot_any A n c l s w25 (DcsAt.below (w := w) DS.out HB.out) hn)
    generalize notI (l.map Dc.pl) s = I at *
    go_wp2_with fail
    refine C.out.mono ?_
    rintro e w' ⟨rfl, rfl⟩
    clear C
    go_upto_region 16 with (fail)
    have hlb : w24.heap.size < w25.heap.size := (Array.getElem?_eq_some_iff.1 BX.out).1
    have HSB : Hid (∀ V, Below w25.heap.size w25 V → V.cell? ⟨w24.heap.size, 0, none⟩ = some (.string ea) ∧ V.cell? ⟨w24.heap.size, 1, none⟩ = some (.string eb)) := Lib.hid (fun V hV => by
      have hb := (hV.block _ hlb).trans BX.out
      exact ⟨cellsOf_block hb rfl, cellsOf_block hb rfl⟩)
    clear BX hlb
    go_cut [158] from 134 (fun c wx => c = .bool false ∧ Hid (Below w25.heap.size w25 wx))
    case first =>
      cases ok with
      | true =>
        obtain ⟨j, d, hI, hj, h1, h2⟩ := FN.out.yes rfl
        subst hI
        rw [List.getElem?_map] at hj
        obtain ⟨d2, hj2, hdd⟩ := Option.map_eq_some_iff.1 hj
        subst hdd
        have hjl : j < n := by have := (List.getElem?_eq_some_iff.1 hj2).1; have := DS.out.1; omega
        have HB9 := Lib.hid (show Below w25.heap.size w25 w25.drew from (Below.refl _ _).drew)
        obtain ⟨a9, d9, hA9, hd9, gx, _⟩ := (DcsAt.below (w := w) DS.out (HB.out.trans (HB9.out.mono HB.out.size))).2 j hjl
        rw [hj2] at hd9
        cases hd9
        obtain ⟨_, g0, g1, g2, g3, g4, g5, g6, g7, g8, g9, r0, r1, g12⟩ := gx
        have h1 : ea = d2.pu := h1
        have h2 : eb = d2.sy := h2
        rw [← h1] at r0
        rw [← h2] at r1
        subst hA9
        have b0 : (0 : Int) ≤ (j : Int) := by omega
        have b1 : (j : Int) < (n : Int) := by omega
        have q1 : ∀ V, (binOp .neq 44 (.agg #[.string ea, .string eb]) (.agg #[.string ea, .string eb])).run Tryd.prog V = .ok (.bool false) V := fun V => (idNeq ea eb ea eb V).trans (by rw [decide_eq_true ⟨rfl, rfl⟩]; rfl)
        have hS9 := HSB.out _ HB9.out
        clear g0 g1 g2 g3 g4 g5 g6 g7 g8 g9 g12 h1 h2 hj hj2 HSB
        refine wp_region_held_drew (S := fun V => (V.cell? ⟨w24.heap.size, 0, none⟩ = some (.string ea) ∧ V.cell? ⟨w24.heap.size, 1, none⟩ = some (.string eb)) ∧ V.cell? ⟨(a9.add (j * 13)).block, (a9.add (j * 13)).off + 10, none⟩ = some (.string ea) ∧ V.cell? ⟨(a9.add (j * 13)).block, (a9.add (j * 13)).off + 11, none⟩ = some (.string eb)) (by kernel_rfl) (And.intro hS9 (And.intro r0 r1)) (fun hHeld => ?_)
        clear hS9
        --TAKES narthex/narthexlaw17.DtdKeeps:16 0..19 -20 -21 -22 23 24
        refine wpAnyH_take (i := 0) (oi := ({ dst := some 134, op := Op.move (Operand.tmp 8), type := 4, pos := "law.go:63", after := #[], guard := none } : Oper)) (v := ?_) rfl (by kernel_rfl) (by kernel_rfl) (by kernel_rfl) (fun _ _ _ h => h) (Or.inl ⟨by rfl, ?_⟩) (by assumption) ?_
        rotate_left 1
        · intro w hSw; (try dsimp only at hSw); go_simp; try with_reducible rfl
        (try simp only [Act.put, List.setIfInBounds_toArray, List.set_cons_zero, List.set_cons_succ])
        refine wpAnyH_take (i := 1) (oi := ({ dst := some 135, op := Op.move (Operand.tmp 13), type := 3, pos := "law.go:63", after := #[], guard := none } : Oper)) (v := ?_) rfl (by kernel_rfl) (by kernel_rfl) (by kernel_rfl) (fun _ _ _ h => h) (Or.inl ⟨by rfl, ?_⟩) (by assumption) ?_
        rotate_left 1
        · intro w hSw; (try dsimp only at hSw); go_simp; try with_reducible rfl
        (try simp only [Act.put, List.setIfInBounds_toArray, List.set_cons_zero, List.set_cons_succ])
        refine wpAnyH_take (i := 2) (oi := ({ dst := some 136, op := Op.binOp BinOp.geq 3 (Operand.tmp 135) (Operand.const (Value.int IntKind.i64 0)) 3, type := 4, pos := "law.go:63", after := #[{ on := 1, ground := Ground.data }], guard := none } : Oper)) (v := ?_) rfl (by kernel_rfl) (by kernel_rfl) (by kernel_rfl) (fun _ _ _ h => h) (Or.inl ⟨by rfl, ?_⟩) (by assumption) ?_
        rotate_left 1
        · intro w hSw; (try dsimp only at hSw); go_simp; try with_reducible rfl
        (try simp only [Act.put, List.setIfInBounds_toArray, List.set_cons_zero, List.set_cons_succ])
        refine wpAnyH_take (i := 3) (oi := ({ dst := some 137, op := Op.binOp BinOp.neq 4 (Operand.tmp 134) (Operand.tmp 136) 4, type := 4, pos := "law.go:63", after := #[{ on := 0, ground := Ground.data }, { on := 2, ground := Ground.data }], guard := none } : Oper)) (v := ?_) rfl (by kernel_rfl) (by kernel_rfl) (by kernel_rfl) (fun _ _ _ h => h) (Or.inl ⟨by rfl, ?_⟩) (by assumption) ?_
        rotate_left 1
        · intro w hSw; (try dsimp only at hSw); go_simp; try with_reducible rfl
        (try simp only [Act.put, List.setIfInBounds_toArray, List.set_cons_zero, List.set_cons_succ])
        refine wpAnyH_take (i := 4) (oi := ({ dst := some 138, op := Op.move (Operand.tmp 137), type := 4, pos := "law.go:63", after := #[{ on := 3, ground := Ground.data }], guard := none } : Oper)) (v := ?_) rfl (by kernel_rfl) (by kernel_rfl) (by kernel_rfl) (fun _ _ _ h => h) (Or.inl ⟨by rfl, ?_⟩) (by assumption) ?_
        rotate_left 1
        · intro w hSw; (try dsimp only at hSw); go_simp; try with_reducible rfl
        (try simp only [Act.put, List.setIfInBounds_toArray, List.set_cons_zero, List.set_cons_succ])
        refine wpAnyH_take (i := 5) (oi := ({ dst := some 139, op := Op.move (Operand.tmp 8), type := 4, pos := "law.go:63", after := #[{ on := 4, ground := Ground.guard }], guard := some (4, false) } : Oper)) (v := ?_) rfl (by kernel_rfl) (by kernel_rfl) (by kernel_rfl) (fun _ _ _ h => h) (Or.inl ⟨by rfl, ?_⟩) (by assumption) ?_
        rotate_left 1
        · intro w hSw; (try dsimp only at hSw); go_simp; try with_reducible rfl
        (try simp only [Act.put, List.setIfInBounds_toArray, List.set_cons_zero, List.set_cons_succ])
        refine wpAnyH_take (i := 6) (oi := ({ dst := some 140, op := Op.move (Operand.tmp 139), type := 4, pos := "law.go:63", after := #[{ on := 5, ground := Ground.data }, { on := 4, ground := Ground.chain }, { on := 4, ground := Ground.guard }], guard := some (4, false) } : Oper)) (v := ?_) rfl (by kernel_rfl) (by kernel_rfl) (by kernel_rfl) (fun _ _ _ h => h) (Or.inl ⟨by rfl, ?_⟩) (by assumption) ?_
        rotate_left 1
        · intro w hSw; (try dsimp only at hSw); go_simp; try with_reducible rfl
        (try simp only [Act.put, List.setIfInBounds_toArray, List.set_cons_zero, List.set_cons_succ])
        refine wpAnyH_take (i := 7) (oi := ({ dst := some 141, op := Op.load 44 (Operand.tmp 12), type := 44, pos := "law.go:63", after := #[{ on := 6, ground := Ground.guard }], guard := some (6, true) } : Oper)) (v := ?_) rfl (by kernel_rfl) (by kernel_rfl) (by kernel_rfl) (fun _ _ _ h => h) (Or.inl ⟨by rfl, ?_⟩) (by assumption) ?_
        rotate_left 1
        · intro w hSw; (try dsimp only at hSw); go_simp; try with_reducible rfl
        (try simp only [Act.put, List.setIfInBounds_toArray, List.set_cons_zero, List.set_cons_succ])
        refine wpAnyH_take (i := 8) (oi := ({ dst := some 142, op := Op.move (Operand.tmp 0), type := 22, pos := "law.go:63", after := #[{ on := 6, ground := Ground.guard }], guard := some (6, true) } : Oper)) (v := ?_) rfl (by kernel_rfl) (by kernel_rfl) (by kernel_rfl) (fun _ _ _ h => h) (Or.inl ⟨by rfl, ?_⟩) (by assumption) ?_
        rotate_left 1
        · intro w hSw; (try dsimp only at hSw); go_simp; try with_reducible rfl
        (try simp only [Act.put, List.setIfInBounds_toArray, List.set_cons_zero, List.set_cons_succ])
        refine wpAnyH_take (i := 9) (oi := ({ dst := some 143, op := Op.move (Operand.tmp 13), type := 3, pos := "law.go:63", after := #[{ on := 6, ground := Ground.guard }], guard := some (6, true) } : Oper)) (v := ?_) rfl (by kernel_rfl) (by kernel_rfl) (by kernel_rfl) (fun _ _ _ h => h) (Or.inl ⟨by rfl, ?_⟩) (by assumption) ?_
        rotate_left 1
        · intro w hSw; (try dsimp only at hSw); go_simp; try with_reducible rfl
        (try simp only [Act.put, List.setIfInBounds_toArray, List.set_cons_zero, List.set_cons_succ])
        refine wpAnyH_take (i := 10) (oi := ({ dst := some 144, op := Op.indexAddr 22 (Operand.tmp 142) (Operand.tmp 143), type := 0, pos := "law.go:63", after := #[{ on := 8, ground := Ground.data }, { on := 9, ground := Ground.data }, { on := 6, ground := Ground.guard }], guard := some (6, true) } : Oper)) (v := ?_) rfl (by kernel_rfl) (by kernel_rfl) (by kernel_rfl) (fun _ _ _ h => h) (Or.inl ⟨by rfl, ?_⟩) (by assumption) ?_
        rotate_left 1
        · intro w hSw; (try dsimp only at hSw); go_simp; try with_reducible rfl
        (try simp only [Act.put, List.setIfInBounds_toArray, List.set_cons_zero, List.set_cons_succ])
        refine wpAnyH_take (i := 11) (oi := ({ dst := some 145, op := Op.fieldAddr 54 (Operand.tmp 144) 5, type := 0, pos := "law.go:63", after := #[{ on := 10, ground := Ground.data }, { on := 6, ground := Ground.guard }], guard := some (6, true) } : Oper)) (v := ?_) rfl (by kernel_rfl) (by kernel_rfl) (by kernel_rfl) (fun _ _ _ h => h) (Or.inl ⟨by rfl, ?_⟩) (by assumption) ?_
        rotate_left 1
        · intro w hSw; (try dsimp only at hSw); go_simp; try with_reducible rfl
        (try simp only [Act.put, List.setIfInBounds_toArray, List.set_cons_zero, List.set_cons_succ])
        refine wpAnyH_take (i := 12) (oi := ({ dst := some 146, op := Op.load 44 (Operand.tmp 145), type := 44, pos := "law.go:63", after := #[{ on := 11, ground := Ground.data }, { on := 6, ground := Ground.guard }], guard := some (6, true) } : Oper)) (v := ?_) rfl (by kernel_rfl) (by kernel_rfl) (by kernel_rfl) (fun _ _ _ h => h) (Or.inl ⟨by rfl, ?_⟩) (by assumption) ?_
        rotate_left 1
        · intro w hSw; (try dsimp only at hSw); go_simp; try with_reducible rfl
        (try simp only [Act.put, List.setIfInBounds_toArray, List.set_cons_zero, List.set_cons_succ])
        refine wpAnyH_take (i := 13) (oi := ({ dst := some 147, op := Op.binOp BinOp.neq 44 (Operand.tmp 141) (Operand.tmp 146) 44, type := 4, pos := "law.go:63", after := #[{ on := 7, ground := Ground.data }, { on := 12, ground := Ground.data }, { on := 6, ground := Ground.guard }], guard := some (6, true) } : Oper)) (v := ?_) rfl (by kernel_rfl) (by kernel_rfl) (by kernel_rfl) (fun _ _ _ h => h) (Or.inl ⟨by rfl, ?_⟩) (by assumption) ?_
        rotate_left 1
        · intro w hSw; (try dsimp only at hSw); go_simp; try with_reducible rfl
        (try simp only [Act.put, List.setIfInBounds_toArray, List.set_cons_zero, List.set_cons_succ])
        refine wpAnyH_take (i := 14) (oi := ({ dst := some 148, op := Op.pick (Operand.tmp 140) (Operand.tmp 147) (Operand.const (Value.bool false)), type := 4, pos := "law.go:63", after := #[{ on := 6, ground := Ground.data }, { on := 13, ground := Ground.data }, { on := 4, ground := Ground.guard }], guard := some (4, false) } : Oper)) (v := ?_) rfl (by kernel_rfl) (by kernel_rfl) (by kernel_rfl) (fun _ _ _ h => h) (Or.inl ⟨by rfl, ?_⟩) (by assumption) ?_
        rotate_left 1
        · intro w hSw; (try dsimp only at hSw); go_simp; try with_reducible rfl
        (try simp only [Act.put, List.setIfInBounds_toArray, List.set_cons_zero, List.set_cons_succ])
        refine wpAnyH_take (i := 15) (oi := ({ dst := some 149, op := Op.pick (Operand.tmp 138) (Operand.const (Value.bool true)) (Operand.tmp 148), type := 4, pos := "law.go:63", after := #[{ on := 4, ground := Ground.data }, { on := 14, ground := Ground.data }], guard := none } : Oper)) (v := ?_) rfl (by kernel_rfl) (by kernel_rfl) (by kernel_rfl) (fun _ _ _ h => h) (Or.inl ⟨by rfl, ?_⟩) (by assumption) ?_
        rotate_left 1
        · intro w hSw; (try dsimp only at hSw); go_simp; try with_reducible rfl
        (try simp only [Act.put, List.setIfInBounds_toArray, List.set_cons_zero, List.set_cons_succ])
        refine wpAnyH_take (i := 16) (oi := ({ dst := some 150, op := Op.move (Operand.tmp 149), type := 4, pos := "law.go:63", after := #[{ on := 15, ground := Ground.data }, { on := 6, ground := Ground.chain }], guard := none } : Oper)) (v := ?_) rfl (by kernel_rfl) (by kernel_rfl) (by kernel_rfl) (fun _ _ _ h => h) (Or.inl ⟨by rfl, ?_⟩) (by assumption) ?_
        rotate_left 1
        · intro w hSw; (try dsimp only at hSw); go_simp; try with_reducible rfl
        (try simp only [Act.put, List.setIfInBounds_toArray, List.set_cons_zero, List.set_cons_succ])
        refine wpAnyH_take (i := 17) (oi := ({ dst := some 151, op := Op.move (Operand.tmp 8), type := 4, pos := "law.go:63", after := #[{ on := 16, ground := Ground.guard }], guard := some (16, false) } : Oper)) (v := ?_) rfl (by kernel_rfl) (by kernel_rfl) (by kernel_rfl) (fun _ _ _ h => h) (Or.inl ⟨by rfl, ?_⟩) (by assumption) ?_
        rotate_left 1
        · intro w hSw; (try dsimp only at hSw); go_simp; try with_reducible rfl
        (try simp only [Act.put, List.setIfInBounds_toArray, List.set_cons_zero, List.set_cons_succ])
        refine wpAnyH_take (i := 18) (oi := ({ dst := some 152, op := Op.unOp UnOp.not 4 (Operand.tmp 151), type := 4, pos := "law.go:63", after := #[{ on := 17, ground := Ground.data }, { on := 16, ground := Ground.guard }], guard := some (16, false) } : Oper)) (v := ?_) rfl (by kernel_rfl) (by kernel_rfl) (by kernel_rfl) (fun _ _ _ h => h) (Or.inl ⟨by rfl, ?_⟩) (by assumption) ?_
        rotate_left 1
        · intro w hSw; (try dsimp only at hSw); go_simp; try with_reducible rfl
        (try simp only [Act.put, List.setIfInBounds_toArray, List.set_cons_zero, List.set_cons_succ])
        refine wpAnyH_take (i := 19) (oi := ({ dst := some 153, op := Op.move (Operand.tmp 152), type := 4, pos := "law.go:63", after := #[{ on := 18, ground := Ground.data }, { on := 16, ground := Ground.chain }, { on := 16, ground := Ground.guard }], guard := some (16, false) } : Oper)) (v := ?_) rfl (by kernel_rfl) (by kernel_rfl) (by kernel_rfl) (fun _ _ _ h => h) (Or.inl ⟨by rfl, ?_⟩) (by assumption) ?_
        rotate_left 1
        · intro w hSw; (try dsimp only at hSw); go_simp; try with_reducible rfl
        (try simp only [Act.put, List.setIfInBounds_toArray, List.set_cons_zero, List.set_cons_succ])
        refine wpAnyH_take (i := 20) (oi := ({ dst := some 154, op := Op.load 44 (Operand.tmp 12), type := 44, pos := "law.go:63", after := #[{ on := 19, ground := Ground.guard }], guard := some (19, true) } : Oper)) (v := undef) rfl (by kernel_rfl) (by kernel_rfl) (by kernel_rfl) (fun _ _ _ h => h) (Or.inr ⟨by rfl, rfl⟩) (by assumption) ?_
        (try simp only [Act.put, List.setIfInBounds_toArray, List.set_cons_zero, List.set_cons_succ])
        refine wpAnyH_take (i := 21) (oi := ({ dst := some 155, op := Op.build 44 #[], type := 44, pos := "law.go:63", after := #[{ on := 19, ground := Ground.guard }], guard := some (19, true) } : Oper)) (v := undef) rfl (by kernel_rfl) (by kernel_rfl) (by kernel_rfl) (fun _ _ _ h => h) (Or.inr ⟨by rfl, rfl⟩) (by assumption) ?_
        (try simp only [Act.put, List.setIfInBounds_toArray, List.set_cons_zero, List.set_cons_succ])
        refine wpAnyH_take (i := 22) (oi := ({ dst := some 156, op := Op.binOp BinOp.neq 44 (Operand.tmp 154) (Operand.tmp 155) 44, type := 4, pos := "law.go:63", after := #[{ on := 20, ground := Ground.data }, { on := 21, ground := Ground.data }, { on := 19, ground := Ground.guard }], guard := some (19, true) } : Oper)) (v := undef) rfl (by kernel_rfl) (by kernel_rfl) (by kernel_rfl) (fun _ _ _ h => h) (Or.inr ⟨by rfl, rfl⟩) (by assumption) ?_
        (try simp only [Act.put, List.setIfInBounds_toArray, List.set_cons_zero, List.set_cons_succ])
        refine wpAnyH_take (i := 23) (oi := ({ dst := some 157, op := Op.pick (Operand.tmp 153) (Operand.tmp 156) (Operand.const (Value.bool false)), type := 4, pos := "law.go:63", after := #[{ on := 19, ground := Ground.data }, { on := 22, ground := Ground.data }, { on := 16, ground := Ground.guard }], guard := some (16, false) } : Oper)) (v := ?_) rfl (by kernel_rfl) (by kernel_rfl) (by kernel_rfl) (fun _ _ _ h => h) (Or.inl ⟨by rfl, ?_⟩) (by assumption) ?_
        rotate_left 1
        · intro w hSw; (try dsimp only at hSw); go_simp; try with_reducible rfl
        (try simp only [Act.put, List.setIfInBounds_toArray, List.set_cons_zero, List.set_cons_succ])
        refine wpAnyH_take (i := 24) (oi := ({ dst := some 158, op := Op.pick (Operand.tmp 150) (Operand.const (Value.bool true)) (Operand.tmp 157), type := 4, pos := "law.go:63", after := #[{ on := 16, ground := Ground.data }, { on := 23, ground := Ground.data }], guard := none } : Oper)) (v := ?_) rfl (by kernel_rfl) (by kernel_rfl) (by kernel_rfl) (fun _ _ _ h => h) (Or.inl ⟨by rfl, ?_⟩) (by assumption) ?_
        rotate_left 1
        · intro w hSw; (try dsimp only at hSw); go_simp; try with_reducible rfl
        (try simp only [Act.put, List.setIfInBounds_toArray, List.set_cons_zero, List.set_cons_succ])
        --END
        refine wpAnyH_done (by kernel_rfl) ?_ _
        clear hHeld
        go_wp2
        go_meet
        case rel => exact ⟨rfl, HB9⟩
      | false =>
        obtain ⟨hI, h1, h2⟩ := FN.out.no rfl
        have h1 : ea = ⟨#[]⟩ := h1
        have h2 : eb = ⟨#[]⟩ := h2
        subst h1 h2 hI
        have q1 := neqZeroI
        have HB9 := Lib.hid (show Below w25.heap.size w25 w25.drew from (Below.refl _ _).drew)
        refine wp_region_held_drew (S := fun V => V.cell? ⟨w24.heap.size, 0, none⟩ = some (.string ⟨#[]⟩) ∧ V.cell? ⟨w24.heap.size, 1, none⟩ = some (.string ⟨#[]⟩)) (by kernel_rfl) (HSB.out _ (Below.refl _ _).drew) (fun hHeld => ?_)
        clear HSB
        --TAKES narthex/narthexlaw17.DtdKeeps:16 0..6 -7 -8 -9 -10 -11 -12 -13 14..24
        refine wpAnyH_take (i := 0) (oi := ({ dst := some 134, op := Op.move (Operand.tmp 8), type := 4, pos := "law.go:63", after := #[], guard := none } : Oper)) (v := ?_) rfl (by kernel_rfl) (by kernel_rfl) (by kernel_rfl) (fun _ _ _ h => h) (Or.inl ⟨by rfl, ?_⟩) (by assumption) ?_
        rotate_left 1
        · intro w hSw; (try dsimp only at hSw); go_simp; try with_reducible rfl
        (try simp only [Act.put, List.setIfInBounds_toArray, List.set_cons_zero, List.set_cons_succ])
        refine wpAnyH_take (i := 1) (oi := ({ dst := some 135, op := Op.move (Operand.tmp 13), type := 3, pos := "law.go:63", after := #[], guard := none } : Oper)) (v := ?_) rfl (by kernel_rfl) (by kernel_rfl) (by kernel_rfl) (fun _ _ _ h => h) (Or.inl ⟨by rfl, ?_⟩) (by assumption) ?_
        rotate_left 1
        · intro w hSw; (try dsimp only at hSw); go_simp; try with_reducible rfl
        (try simp only [Act.put, List.setIfInBounds_toArray, List.set_cons_zero, List.set_cons_succ])
        refine wpAnyH_take (i := 2) (oi := ({ dst := some 136, op := Op.binOp BinOp.geq 3 (Operand.tmp 135) (Operand.const (Value.int IntKind.i64 0)) 3, type := 4, pos := "law.go:63", after := #[{ on := 1, ground := Ground.data }], guard := none } : Oper)) (v := ?_) rfl (by kernel_rfl) (by kernel_rfl) (by kernel_rfl) (fun _ _ _ h => h) (Or.inl ⟨by rfl, ?_⟩) (by assumption) ?_
        rotate_left 1
        · intro w hSw; (try dsimp only at hSw); go_simp; try with_reducible rfl
        (try simp only [Act.put, List.setIfInBounds_toArray, List.set_cons_zero, List.set_cons_succ])
        refine wpAnyH_take (i := 3) (oi := ({ dst := some 137, op := Op.binOp BinOp.neq 4 (Operand.tmp 134) (Operand.tmp 136) 4, type := 4, pos := "law.go:63", after := #[{ on := 0, ground := Ground.data }, { on := 2, ground := Ground.data }], guard := none } : Oper)) (v := ?_) rfl (by kernel_rfl) (by kernel_rfl) (by kernel_rfl) (fun _ _ _ h => h) (Or.inl ⟨by rfl, ?_⟩) (by assumption) ?_
        rotate_left 1
        · intro w hSw; (try dsimp only at hSw); go_simp; try with_reducible rfl
        (try simp only [Act.put, List.setIfInBounds_toArray, List.set_cons_zero, List.set_cons_succ])
        refine wpAnyH_take (i := 4) (oi := ({ dst := some 138, op := Op.move (Operand.tmp 137), type := 4, pos := "law.go:63", after := #[{ on := 3, ground := Ground.data }], guard := none } : Oper)) (v := ?_) rfl (by kernel_rfl) (by kernel_rfl) (by kernel_rfl) (fun _ _ _ h => h) (Or.inl ⟨by rfl, ?_⟩) (by assumption) ?_
        rotate_left 1
        · intro w hSw; (try dsimp only at hSw); go_simp; try with_reducible rfl
        (try simp only [Act.put, List.setIfInBounds_toArray, List.set_cons_zero, List.set_cons_succ])
        refine wpAnyH_take (i := 5) (oi := ({ dst := some 139, op := Op.move (Operand.tmp 8), type := 4, pos := "law.go:63", after := #[{ on := 4, ground := Ground.guard }], guard := some (4, false) } : Oper)) (v := ?_) rfl (by kernel_rfl) (by kernel_rfl) (by kernel_rfl) (fun _ _ _ h => h) (Or.inl ⟨by rfl, ?_⟩) (by assumption) ?_
        rotate_left 1
        · intro w hSw; (try dsimp only at hSw); go_simp; try with_reducible rfl
        (try simp only [Act.put, List.setIfInBounds_toArray, List.set_cons_zero, List.set_cons_succ])
        refine wpAnyH_take (i := 6) (oi := ({ dst := some 140, op := Op.move (Operand.tmp 139), type := 4, pos := "law.go:63", after := #[{ on := 5, ground := Ground.data }, { on := 4, ground := Ground.chain }, { on := 4, ground := Ground.guard }], guard := some (4, false) } : Oper)) (v := ?_) rfl (by kernel_rfl) (by kernel_rfl) (by kernel_rfl) (fun _ _ _ h => h) (Or.inl ⟨by rfl, ?_⟩) (by assumption) ?_
        rotate_left 1
        · intro w hSw; (try dsimp only at hSw); go_simp; try with_reducible rfl
        (try simp only [Act.put, List.setIfInBounds_toArray, List.set_cons_zero, List.set_cons_succ])
        refine wpAnyH_take (i := 7) (oi := ({ dst := some 141, op := Op.load 44 (Operand.tmp 12), type := 44, pos := "law.go:63", after := #[{ on := 6, ground := Ground.guard }], guard := some (6, true) } : Oper)) (v := undef) rfl (by kernel_rfl) (by kernel_rfl) (by kernel_rfl) (fun _ _ _ h => h) (Or.inr ⟨by rfl, rfl⟩) (by assumption) ?_
        (try simp only [Act.put, List.setIfInBounds_toArray, List.set_cons_zero, List.set_cons_succ])
        refine wpAnyH_take (i := 8) (oi := ({ dst := some 142, op := Op.move (Operand.tmp 0), type := 22, pos := "law.go:63", after := #[{ on := 6, ground := Ground.guard }], guard := some (6, true) } : Oper)) (v := undef) rfl (by kernel_rfl) (by kernel_rfl) (by kernel_rfl) (fun _ _ _ h => h) (Or.inr ⟨by rfl, rfl⟩) (by assumption) ?_
        (try simp only [Act.put, List.setIfInBounds_toArray, List.set_cons_zero, List.set_cons_succ])
        refine wpAnyH_take (i := 9) (oi := ({ dst := some 143, op := Op.move (Operand.tmp 13), type := 3, pos := "law.go:63", after := #[{ on := 6, ground := Ground.guard }], guard := some (6, true) } : Oper)) (v := undef) rfl (by kernel_rfl) (by kernel_rfl) (by kernel_rfl) (fun _ _ _ h => h) (Or.inr ⟨by rfl, rfl⟩) (by assumption) ?_
        (try simp only [Act.put, List.setIfInBounds_toArray, List.set_cons_zero, List.set_cons_succ])
        refine wpAnyH_take (i := 10) (oi := ({ dst := some 144, op := Op.indexAddr 22 (Operand.tmp 142) (Operand.tmp 143), type := 0, pos := "law.go:63", after := #[{ on := 8, ground := Ground.data }, { on := 9, ground := Ground.data }, { on := 6, ground := Ground.guard }], guard := some (6, true) } : Oper)) (v := undef) rfl (by kernel_rfl) (by kernel_rfl) (by kernel_rfl) (fun _ _ _ h => h) (Or.inr ⟨by rfl, rfl⟩) (by assumption) ?_
        (try simp only [Act.put, List.setIfInBounds_toArray, List.set_cons_zero, List.set_cons_succ])
        refine wpAnyH_take (i := 11) (oi := ({ dst := some 145, op := Op.fieldAddr 54 (Operand.tmp 144) 5, type := 0, pos := "law.go:63", after := #[{ on := 10, ground := Ground.data }, { on := 6, ground := Ground.guard }], guard := some (6, true) } : Oper)) (v := undef) rfl (by kernel_rfl) (by kernel_rfl) (by kernel_rfl) (fun _ _ _ h => h) (Or.inr ⟨by rfl, rfl⟩) (by assumption) ?_
        (try simp only [Act.put, List.setIfInBounds_toArray, List.set_cons_zero, List.set_cons_succ])
        refine wpAnyH_take (i := 12) (oi := ({ dst := some 146, op := Op.load 44 (Operand.tmp 145), type := 44, pos := "law.go:63", after := #[{ on := 11, ground := Ground.data }, { on := 6, ground := Ground.guard }], guard := some (6, true) } : Oper)) (v := undef) rfl (by kernel_rfl) (by kernel_rfl) (by kernel_rfl) (fun _ _ _ h => h) (Or.inr ⟨by rfl, rfl⟩) (by assumption) ?_
        (try simp only [Act.put, List.setIfInBounds_toArray, List.set_cons_zero, List.set_cons_succ])
        refine wpAnyH_take (i := 13) (oi := ({ dst := some 147, op := Op.binOp BinOp.neq 44 (Operand.tmp 141) (Operand.tmp 146) 44, type := 4, pos := "law.go:63", after := #[{ on := 7, ground := Ground.data }, { on := 12, ground := Ground.data }, { on := 6, ground := Ground.guard }], guard := some (6, true) } : Oper)) (v := undef) rfl (by kernel_rfl) (by kernel_rfl) (by kernel_rfl) (fun _ _ _ h => h) (Or.inr ⟨by rfl, rfl⟩) (by assumption) ?_
        (try simp only [Act.put, List.setIfInBounds_toArray, List.set_cons_zero, List.set_cons_succ])
        refine wpAnyH_take (i := 14) (oi := ({ dst := some 148, op := Op.pick (Operand.tmp 140) (Operand.tmp 147) (Operand.const (Value.bool false)), type := 4, pos := "law.go:63", after := #[{ on := 6, ground := Ground.data }, { on := 13, ground := Ground.data }, { on := 4, ground := Ground.guard }], guard := some (4, false) } : Oper)) (v := ?_) rfl (by kernel_rfl) (by kernel_rfl) (by kernel_rfl) (fun _ _ _ h => h) (Or.inl ⟨by rfl, ?_⟩) (by assumption) ?_
        rotate_left 1
        · intro w hSw; (try dsimp only at hSw); go_simp; try with_reducible rfl
        (try simp only [Act.put, List.setIfInBounds_toArray, List.set_cons_zero, List.set_cons_succ])
        refine wpAnyH_take (i := 15) (oi := ({ dst := some 149, op := Op.pick (Operand.tmp 138) (Operand.const (Value.bool true)) (Operand.tmp 148), type := 4, pos := "law.go:63", after := #[{ on := 4, ground := Ground.data }, { on := 14, ground := Ground.data }], guard := none } : Oper)) (v := ?_) rfl (by kernel_rfl) (by kernel_rfl) (by kernel_rfl) (fun _ _ _ h => h) (Or.inl ⟨by rfl, ?_⟩) (by assumption) ?_
        rotate_left 1
        · intro w hSw; (try dsimp only at hSw); go_simp; try with_reducible rfl
        (try simp only [Act.put, List.setIfInBounds_toArray, List.set_cons_zero, List.set_cons_succ])
        refine wpAnyH_take (i := 16) (oi := ({ dst := some 150, op := Op.move (Operand.tmp 149), type := 4, pos := "law.go:63", after := #[{ on := 15, ground := Ground.data }, { on := 6, ground := Ground.chain }], guard := none } : Oper)) (v := ?_) rfl (by kernel_rfl) (by kernel_rfl) (by kernel_rfl) (fun _ _ _ h => h) (Or.inl ⟨by rfl, ?_⟩) (by assumption) ?_
        rotate_left 1
        · intro w hSw; (try dsimp only at hSw); go_simp; try with_reducible rfl
        (try simp only [Act.put, List.setIfInBounds_toArray, List.set_cons_zero, List.set_cons_succ])
        refine wpAnyH_take (i := 17) (oi := ({ dst := some 151, op := Op.move (Operand.tmp 8), type := 4, pos := "law.go:63", after := #[{ on := 16, ground := Ground.guard }], guard := some (16, false) } : Oper)) (v := ?_) rfl (by kernel_rfl) (by kernel_rfl) (by kernel_rfl) (fun _ _ _ h => h) (Or.inl ⟨by rfl, ?_⟩) (by assumption) ?_
        rotate_left 1
        · intro w hSw; (try dsimp only at hSw); go_simp; try with_reducible rfl
        (try simp only [Act.put, List.setIfInBounds_toArray, List.set_cons_zero, List.set_cons_succ])
        refine wpAnyH_take (i := 18) (oi := ({ dst := some 152, op := Op.unOp UnOp.not 4 (Operand.tmp 151), type := 4, pos := "law.go:63", after := #[{ on := 17, ground := Ground.data }, { on := 16, ground := Ground.guard }], guard := some (16, false) } : Oper)) (v := ?_) rfl (by kernel_rfl) (by kernel_rfl) (by kernel_rfl) (fun _ _ _ h => h) (Or.inl ⟨by rfl, ?_⟩) (by assumption) ?_
        rotate_left 1
        · intro w hSw; (try dsimp only at hSw); go_simp; try with_reducible rfl
        (try simp only [Act.put, List.setIfInBounds_toArray, List.set_cons_zero, List.set_cons_succ])
        refine wpAnyH_take (i := 19) (oi := ({ dst := some 153, op := Op.move (Operand.tmp 152), type := 4, pos := "law.go:63", after := #[{ on := 18, ground := Ground.data }, { on := 16, ground := Ground.chain }, { on := 16, ground := Ground.guard }], guard := some (16, false) } : Oper)) (v := ?_) rfl (by kernel_rfl) (by kernel_rfl) (by kernel_rfl) (fun _ _ _ h => h) (Or.inl ⟨by rfl, ?_⟩) (by assumption) ?_
        rotate_left 1
        · intro w hSw; (try dsimp only at hSw); go_simp; try with_reducible rfl
        (try simp only [Act.put, List.setIfInBounds_toArray, List.set_cons_zero, List.set_cons_succ])
        refine wpAnyH_take (i := 20) (oi := ({ dst := some 154, op := Op.load 44 (Operand.tmp 12), type := 44, pos := "law.go:63", after := #[{ on := 19, ground := Ground.guard }], guard := some (19, true) } : Oper)) (v := ?_) rfl (by kernel_rfl) (by kernel_rfl) (by kernel_rfl) (fun _ _ _ h => h) (Or.inl ⟨by rfl, ?_⟩) (by assumption) ?_
        rotate_left 1
        · intro w hSw; (try dsimp only at hSw); go_simp; try with_reducible rfl
        (try simp only [Act.put, List.setIfInBounds_toArray, List.set_cons_zero, List.set_cons_succ])
        refine wpAnyH_take (i := 21) (oi := ({ dst := some 155, op := Op.build 44 #[], type := 44, pos := "law.go:63", after := #[{ on := 19, ground := Ground.guard }], guard := some (19, true) } : Oper)) (v := ?_) rfl (by kernel_rfl) (by kernel_rfl) (by kernel_rfl) (fun _ _ _ h => h) (Or.inl ⟨by rfl, ?_⟩) (by assumption) ?_
        rotate_left 1
        · intro w hSw; (try dsimp only at hSw); go_simp; try with_reducible rfl
        (try simp only [Act.put, List.setIfInBounds_toArray, List.set_cons_zero, List.set_cons_succ])
        refine wpAnyH_take (i := 22) (oi := ({ dst := some 156, op := Op.binOp BinOp.neq 44 (Operand.tmp 154) (Operand.tmp 155) 44, type := 4, pos := "law.go:63", after := #[{ on := 20, ground := Ground.data }, { on := 21, ground := Ground.data }, { on := 19, ground := Ground.guard }], guard := some (19, true) } : Oper)) (v := ?_) rfl (by kernel_rfl) (by kernel_rfl) (by kernel_rfl) (fun _ _ _ h => h) (Or.inl ⟨by rfl, ?_⟩) (by assumption) ?_
        rotate_left 1
        · intro w hSw; (try dsimp only at hSw); go_simp; try with_reducible rfl
        (try simp only [Act.put, List.setIfInBounds_toArray, List.set_cons_zero, List.set_cons_succ])
        refine wpAnyH_take (i := 23) (oi := ({ dst := some 157, op := Op.pick (Operand.tmp 153) (Operand.tmp 156) (Operand.const (Value.bool false)), type := 4, pos := "law.go:63", after := #[{ on := 19, ground := Ground.data }, { on := 22, ground := Ground.data }, { on := 16, ground := Ground.guard }], guard := some (16, false) } : Oper)) (v := ?_) rfl (by kernel_rfl) (by kernel_rfl) (by kernel_rfl) (fun _ _ _ h => h) (Or.inl ⟨by rfl, ?_⟩) (by assumption) ?_
        rotate_left 1
        · intro w hSw; (try dsimp only at hSw); go_simp; try with_reducible rfl
        (try simp only [Act.put, List.setIfInBounds_toArray, List.set_cons_zero, List.set_cons_succ])
        refine wpAnyH_take (i := 24) (oi := ({ dst := some 158, op := Op.pick (Operand.tmp 150) (Operand.const (Value.bool true)) (Operand.tmp 157), type := 4, pos := "law.go:63", after := #[{ on := 16, ground := Ground.data }, { on := 23, ground := Ground.data }], guard := none } : Oper)) (v := ?_) rfl (by kernel_rfl) (by kernel_rfl) (by kernel_rfl) (fun _ _ _ h => h) (Or.inl ⟨by rfl, ?_⟩) (by assumption) ?_
        rotate_left 1
        · intro w hSw; (try dsimp only at hSw); go_simp; try with_reducible rfl
        (try simp only [Act.put, List.setIfInBounds_toArray, List.set_cons_zero, List.set_cons_succ])
        --END
        refine wpAnyH_done (by kernel_rfl) ?_ _
        clear hHeld
        go_wp2
        go_meet
        case rel => exact ⟨rfl, HB9⟩
    case rest =>
    obtain ⟨rfl, HBc⟩ := hcut
    have HT := Lib.hid (HT.out.below HBc.out)
    have HB := Lib.hid (HB.out.trans (HBc.out.mono HB.out.size))
    clear HBc HSB FN
    have C := Lib.hid (defs_any HT.out s HSS.out (by have := TO.out.els; omega) (fun y hy => by have := (TO.out.ds y hy).1; omega) (fun y hy z hz => by have := ((TO.out.ds y hy).2 z hz).2; omega))
    go_wp2_with fail
    refine C.out.mono ?_
    rintro e y1 ⟨ds, A5, c5, rfl, hd5, ho5, hw5, hB⟩
    clear C
    have HD5 := Lib.hid hd5
    have HDF5 := Lib.hid (DfsAt.of_own ho5 (fun d hd => TsAt.of_own (hw5 d hd)))
    have HB := Lib.hid (HB.out.trans (hB.mono HB.out.size))
    clear hd5 ho5 hw5 hB
    have C := Lib.hid (rdefs_any A n c l s y1 (DcsAt.below (w := w) DS.out HB.out) hn (okDc_len HOK.out))
    go_wp2_with fail
    refine C.out.mono ?_
    rintro e y2 ⟨ys, A6, c6, rfl, hd6, ho6, hw6, hB⟩
    clear C
    have HDF6 := Lib.hid (DfsAt.of_own ho6 (fun y hy => (hw6 y hy).below hB))
    have C := Lib.hid (defsTold (c := c5) (d := c6) TO.out HD5.out hd6 (DfsAt.below (w := y1) HDF5.out hB) HDF6.out)
    have HB := Lib.hid (HB.out.trans (hB.mono HB.out.size))
    clear hd6 ho6 hw6 hB
    go_wp2_with fail
    refine C.out.mono ?_
    rintro e y3 ⟨rfl, hB⟩
    clear C
    have HB := Lib.hid (HB.out.trans (hB.mono HB.out.size))
    clear hB
    have C := Lib.hid (live17_any y3 (KnownAt.later HKN.out HB.out))
    go_wp2_with fail
    refine C.out.mono ?_
    rintro e y4 ⟨rfl, hB⟩
    clear C
    have HB := Lib.hid (HB.out.trans (hB.mono HB.out.size))
    clear hB
    go_wp2
    go_ret
    exact ⟨rfl, HB.out⟩
end Go.Proofs.YtapjmfgpdkghlaaDoor
