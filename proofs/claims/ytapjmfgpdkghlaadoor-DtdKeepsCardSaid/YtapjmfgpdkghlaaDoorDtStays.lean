/- DtdStays: all declarations, added a second time, change nothing; what is told of no table. Conditions: cref.known as the text lays it. -/
import Derived.Test.YtapjmfgpdkghlaaDoorDtLists
namespace Go.Proofs.YtapjmfgpdkghlaaDoor
open Go.RowKit Go.Maps
set_option linter.unusedVariables false
set_option linter.unusedSimpArgs false
theorem EnsAt.keep {w w' : World} {P : Nat → Prop} {A : Option Addr} {n : Nat} {es : List Ent} (h : EnsAt w A n es) (hk : KeepG w w' P) (ho : Off P A) : EnsAt w' A n es :=
  ⟨h.1, fun i hi => by
    obtain ⟨a, d, h1, h2, h3⟩ := h.2 i hi
    refine ⟨a, d, h1, h2, h3.same hk.size ?_⟩
    have hl := h3.lt
    rw [addBlockT] at hl ⊢
    exact hk.block a.block hl (ho a h1)⟩
theorem add_nil (w : World) : Calls Tryd.prog 26 #[.pointer none, .agg #[.int .i64 1, .string ⟨#[]⟩, .bool false, .string ⟨#[]⟩, .string ⟨#[]⟩, .bool false, .string ⟨#[]⟩, .string ⟨#[]⟩, .string ⟨#[]⟩, .slice none 0 0, .string ⟨#[]⟩, .string ⟨#[]⟩, .string ⟨#[]⟩]] w (RetIB 1 w) := by
  obtain ⟨W, hW, hsW, hBW, bx⟩ := boxWorld w #[.int .i64 1, .string ⟨#[]⟩, .bool false, .string ⟨#[]⟩, .string ⟨#[]⟩, .bool false, .string ⟨#[]⟩, .string ⟨#[]⟩, .string ⟨#[]⟩, .slice none 0 0, .string ⟨#[]⟩, .string ⟨#[]⟩, .string ⟨#[]⟩] 59
  have HB := Lib.hid hBW
  clear hBW bx hsW
  go_enter Tryd.func26, Tryd.ntmps26
  go_upto_region 1 with (fail)
  clear hW
  go_wp2
  go_ret
  exact ⟨rfl, HB.out⟩
set_option maxRecDepth 100000 in
set_option maxHeartbeats 8000000 in
theorem dtdStays_any (A : Option Addr) (n c : Nat) (l : List Dc) (w : World) (h : DcsAt w A n l) (hK : KnownAt w) : Calls Tryd.prog 5 #[.slice A n c] w (RetBB true w) := by
  have DS := Lib.hid h
  have HKN := Lib.hid hK
  have CG := Lib.hid (great17_any A n c l w h)
  clear h hK
  go_enter Tryd.func5, Tryd.ntmps5
  go_wp2_with fail
  refine CG.out.mono ?_
  rintro e w1 ⟨bg, rfl, hbg, hB1⟩
  have HB1 := Lib.hid hB1
  have HKN1 := Lib.hid (HKN.out.later hB1)
  clear hB1 CG
  cases bg with
  | true =>
    have CL := Lib.hid (live17_any w1 HKN1.out)
    clear hbg
    go_wp2_with fail
    refine CL.out.mono ?_
    rintro e w2 ⟨rfl, hB2⟩
    have HB2 := Lib.hid (HB1.out.trans (hB2.mono HB1.out.size))
    clear hB2 CL
    go_wp2
    go_ret
    exact ⟨rfl, HB2.out⟩
  | false =>
    have HOK := Lib.hid (hbg rfl)
    have hn : n ≤ 16 := by have h1 := (hbg rfl).1; rw [List.length_map, DS.out.1] at h1; omega
    have CF := Lib.hid (fill_any A n c l w1 (DcsAt.below (w := w) DS.out HB1.out) HOK.out HKN1.out)
    clear hbg
    go_wp2_with fail
    refine CF.out.mono ?_
    rintro e w2 ⟨tb, T, rfl, ht2, hst, hB2⟩
    have HT2 := Lib.hid ht2
    have TO := Lib.hid (TabOf.mk2 hst HOK.out)
    have HB2 := Lib.hid (HB1.out.trans (hB2.mono HB1.out.size))
    have HB12 := Lib.hid hB2
    have CE := Lib.hid (generals_any ht2 (by have := TO.out.bnd.g; unfold Tm.st at this; dsimp only at this; omega))
    clear ht2 hst hB2 CF
    go_wp2_with fail
    refine CE.out.mono ?_
    rintro e w3 ⟨A3, c3, rfl, ho3, hB3⟩
    have HG3 := Lib.hid (EnsAt.of_own ho3)
    have OF3 := Lib.hid (off_own HT2.out ho3 (Nat.le_refl _))
    have HB13 := Lib.hid (HB12.out.trans (hB3.mono HB12.out.size))
    have HT3 := Lib.hid (HT2.out.below hB3)
    have CP := Lib.hid (params_any HT3.out (by have := TO.out.bnd.p; unfold Tm.st at this; dsimp only at this; omega))
    have z23 : w2.heap.size ≤ w3.heap.size := hB3.size
    clear ho3 hB3 CE
    go_wp2_with fail
    refine CP.out.mono ?_
    rintro e w4 ⟨A4, c4, rfl, ho4, hB4⟩
    have HP4 := Lib.hid (EnsAt.of_own ho4)
    have OF4 := Lib.hid (off_own HT2.out ho4 z23)
    have HG4 := Lib.hid (EnsAt.below (w := w3) HG3.out hB4)
    have HB14 := Lib.hid (HB13.out.trans (hB4.mono HB13.out.size))
    have HT4 := Lib.hid (HT3.out.below hB4)
    have HLB := Lib.hid (show lenM T ≤ 1000000000 by rw [lenM_is]; have := TO.out.bnd.len; omega)
    have CL := Lib.hid (len_any HT4.out HLB.out (by have := TO.out.els; omega))
    clear ho4 hB4 CP z23
    go_wp2_with fail
    refine CL.out.mono ?_
    rintro e w5 ⟨rfl, hB5⟩
    have HP5 := Lib.hid (EnsAt.below (w := w4) HP4.out hB5)
    have HG5 := Lib.hid (EnsAt.below (w := w4) HG4.out hB5)
    have HB15 := Lib.hid (HB14.out.trans (hB5.mono HB14.out.size))
    have HT5 := Lib.hid (HT4.out.below hB5)
    have TR := Lib.hid (TabKept.refl HT5.out (Below.refl _ w5))
    have hlm : lenM T ≤ 1000000000 := HLB.out
    clear hB5 CL
    generalize hlen : lenM T = len at *
    have HLEN := Lib.hid hlen
    clear hlen
    go_wp2
    go_loopw [8] (fun v8 wr => ∃ (k : Nat) (T' : Tm), k ≤ n ∧ v8 = .int .i64 ((k : Int) - 1) ∧ Hid (TabKept w5 wr w1.heap.size tb T T') ∧ Hid (T'.st = T.st) ∧ Hid (Below w1.heap.size w1 wr)) (fun v8 _ => (intOf v8 + 1).toNat)
    case atStart => exact ⟨n, T, Nat.le_refl _, by go_num, TR, rfl, HB15⟩
    case round =>
      obtain ⟨k, T', hk, rfl, HTK, HST, HB⟩ := hrel
      cases k with
      | succ m =>
        have ek : ((m + 1 : Nat) : Int) - 1 = (m : Int) := by omega
        rw [ek]
        have b0 : (0 : Int) ≤ (m : Int) := by omega
        have b1 : (m : Int) < (n : Int) := by omega
        have hdw : DcsAt w1 A n l := DcsAt.below (w := w) DS.out HB1.out
        obtain ⟨a, d, rfl, hx, gx, hdf⟩ := hdw.2 m (by omega)
        have hdr := hdf.below HB.out
        have gx := gx.same (w' := wr) HB.out.size (HB.out.block _ gx.lt)
        obtain ⟨_, g0, g1, g2, g3, g4, g5, g6, g7, g8, g9, g10, g11, g12⟩ := gx
        have hdk : d.pl ∈ l.map Dc.pl := List.mem_map.2 ⟨d, List.mem_of_getElem? hx, rfl⟩
        have hod : OkDc d.pl := HOK.out.2 _ hdk
        have hdl : d.ds.length ≤ 12 := by have := hod.1; unfold Dc.pl at this; simpa using this
        have C1 := Lib.hid (show Calls Tryd.prog 27 #[.agg #[.int .i64 d.ki, .string d.na, .bool d.pm, .string d.en.na, .string d.en.tx, .bool d.en.out, .string d.en.pu, .string d.en.sy, .string d.en.no, .slice d.A d.ds.length d.c, .string d.pu, .string d.sy, .string d.tx]] wr (TellGive d wr) from give_any d wr hdr (by omega))
        have HAG := Lib.hid (show tAdd T'.st d.pl = T.st by rw [HST.out, TO.out.st]; exact tab_again hdk)
        have HOD := Lib.hid hod
        have HDF := Lib.hid hdf
        have HBN := Lib.hid (show Bnd T'.st 16 by rw [HST.out]; exact TO.out.bnd)
        clear hx hdf hdr hdk hod hdl hdw
        go_wp2_with fail
        refine C1.out.mono ?_
        rintro e w6 ⟨A6, c6, rfl, ho6, hB6⟩
        have HB6 := Lib.hid (HB.out.trans (hB6.mono HB.out.size))
        have hk6 := HTK.out.trans (TabKept.refl HTK.out.tab hB6)
        have C2 := Lib.hid (add_one (k := 16) hk6.tab rfl HB6.out HDF.out HOD.out HKN1.out HBN.out (Nat.le_refl _) (own_lowerD ho6 HB.out.size) (off_own HTK.out.tab ho6 (Nat.le_refl _)))
        have HK6 := Lib.hid hk6
        clear ho6 hB6 hk6 C1
        go_wp2_with fail
        refine C2.out.mono ?_
        rintro e w7 ⟨rfl, T7, hk7, hst7⟩
        have HK7 := Lib.hid (HK6.out.trans hk7)
        have HB7 := Lib.hid (HB6.out.trans (hk7.belowB HK6.out.tab HB6.out.size))
        have HST7 := Lib.hid (hst7.trans HAG.out)
        clear hk7 hst7 C2
        go_wp2
        go_roundw
        case rel => exact ⟨m, T7, by omega, by first | rfl | go_num, HK7, HST7, HB7⟩
        case measure => simp [intOf]
      | zero =>
        have bz : ¬ (0 : Int) ≤ ((0 : Nat) : Int) - 1 := by omega
        have HG6 := Lib.hid (EnsAt.keep (w := w5) HG5.out HTK.out.keep OF3.out)
        have HP6 := Lib.hid (EnsAt.keep (w := w5) HP5.out HTK.out.keep OF4.out)
        have HBR := Lib.hid (HB1.out.trans (HB.out.mono HB1.out.size))
        have HTR := Lib.hid HTK.out.tab
        have CN := Lib.hid (general_nil ⟨#[97]⟩ wr)
        clear HTK HG5 HP5 HT5 HT4 HT3 HT2 HB15 HB14 HB13 HB12
        go_wp2_with fail
        refine CN.out.mono ?_
        rintro e w6 ⟨rfl, hB6⟩
        clear CN
        obtain ⟨W6, hW6, hs6, hBW6, _⟩ := boxWorld w6 #[.string ⟨#[]⟩, .string ⟨#[]⟩, .bool false, .string ⟨#[]⟩, .string ⟨#[]⟩, .string ⟨#[]⟩] 46
        have HB6 := Lib.hid (hB6.trans (hBW6.mono hB6.size))
        have HW6 := Lib.hid hW6
        clear hW6 hB6 hBW6 hs6
        dsimp only [Ent.zero, Ent.v]
        go_upto_region 11 with (fail)
        rw [HW6.out]
        clear HW6
        have CN := Lib.hid (param_nil ⟨#[97]⟩ W6)
        go_wp2_with fail
        refine CN.out.mono ?_
        rintro e w7 ⟨rfl, hB7⟩
        clear CN
        obtain ⟨W7, hW7, hs7, hBW7, _⟩ := boxWorld w7 #[.string ⟨#[]⟩, .string ⟨#[]⟩, .bool false, .string ⟨#[]⟩, .string ⟨#[]⟩, .string ⟨#[]⟩] 46
        have HB7 := Lib.hid (HB6.out.trans ((hB7.trans (hBW7.mono hB7.size)).mono HB6.out.size))
        have HW7 := Lib.hid hW7
        clear hW7 hB7 hBW7 hs7
        dsimp only [Ent.zero, Ent.v]
        go_upto_region 12 with (fail)
        rw [HW7.out]
        clear HW7
        have CN := Lib.hid (notation_nil ⟨#[97]⟩ W7)
        go_wp2_with fail
        refine CN.out.mono ?_
        rintro e w8 ⟨rfl, hB8⟩
        clear CN
        obtain ⟨W8, hW8, hs8, hBW8, _⟩ := boxWorld w8 #[.string ⟨#[]⟩, .string ⟨#[]⟩] 44
        have HB8 := Lib.hid (HB7.out.trans ((hB8.trans (hBW8.mono hB8.size)).mono HB7.out.size))
        have HW8 := Lib.hid hW8
        clear hW8 hB8 hBW8 hs8
        go_upto_region 13 with (fail)
        rw [HW8.out]
        clear HW8
        have CN := Lib.hid (add_nil W8)
        go_wp2_with fail
        refine CN.out.mono ?_
        rintro e w9 ⟨rfl, hB9⟩
        have HB9 := Lib.hid (HB8.out.trans (hB9.mono HB8.out.size))
        clear CN hB9
        have CN := Lib.hid (defs_nil ⟨#[97]⟩ w9)
        go_wp2_with fail
        refine CN.out.mono ?_
        rintro e w' ⟨rfl, rfl⟩
        clear CN
        have CN := Lib.hid (generals_nil w9)
        go_wp2_with fail
        refine CN.out.mono ?_
        rintro e w' ⟨rfl, rfl⟩
        clear CN
        have CN := Lib.hid (params_nil w9)
        go_wp2_with fail
        refine CN.out.mono ?_
        rintro e w' ⟨rfl, rfl⟩
        clear CN
        have CN := Lib.hid (elements_nil w9)
        go_wp2_with fail
        refine CN.out.mono ?_
        rintro e w' ⟨rfl, rfl⟩
        clear CN
        have CN := Lib.hid (len_nil w9)
        go_wp2_with fail
        refine CN.out.mono ?_
        rintro e w' ⟨rfl, rfl⟩
        clear CN
        have HT9 := Lib.hid (HTR.out.below HB9.out)
        have HG9 := Lib.hid (EnsAt.below (w := wr) HG6.out HB9.out)
        have HP9 := Lib.hid (EnsAt.below (w := wr) HP6.out HB9.out)
        have hgg : T'.gens = T.gens := congrArg TSt.gens HST.out
        have hpp : T'.pars = T.pars := congrArg TSt.pars HST.out
        have hgl : T.gens.length ≤ 16 := by have := TO.out.bnd.g; unfold Tm.st at this; exact this
        have hpl : T.pars.length ≤ 16 := by have := TO.out.bnd.p; unfold Tm.st at this; exact this
        have hel : T'.els.length ≤ 1048576 := by
          have h1 := congrArg (fun S : TSt => S.els.length) HST.out
          unfold Tm.st at h1
          simp only [List.length_map] at h1
          have := TO.out.els
          omega
        have hlm2 : lenM T' = len := by rw [← HLEN.out, lenM_is, lenM_is, HST.out]
        have CE := generals_any HT9.out (by rw [hgg]; omega)
        rw [hgg] at CE
        have CE := Lib.hid CE
        have HPP := Lib.hid hpp
        have HGL := Lib.hid hgl
        have HPL := Lib.hid hpl
        have HEL := Lib.hid hel
        have HLM2 := Lib.hid hlm2
        clear hgg hpp hgl hpl hel hlm2
        go_wp2_with fail
        refine CE.out.mono ?_
        rintro e w10 ⟨A10, c10, rfl, ho10, hB10⟩
        have HB10 := Lib.hid (HB9.out.trans (hB10.mono HB9.out.size))
        have HP10 := Lib.hid (EnsAt.below (w := w9) HP9.out hB10)
        have HT10 := Lib.hid (HT9.out.below hB10)
        have CS := rsame_any A10 T.gens.length c10 T.gens A3 T.gens.length c3 T.gens w10 (EnsAt.of_own ho10) (EnsAt.below (w := w9) HG9.out hB10) (by have := HGL.out; omega)
        rw [decide_eq_true rfl] at CS
        have CS := Lib.hid CS
        clear ho10 hB10 CE
        go_wp2_with fail
        refine CS.out.mono ?_
        rintro e w11 ⟨rfl, dd, rfl⟩
        clear CS
        have HD := Lib.hid (below_drewN (Below.refl w10.heap.size w10) dd)
        generalize w10.drewN dd = w11 at *
        have HB11 := Lib.hid (HB10.out.trans (HD.out.mono HB10.out.size))
        have HP11 := Lib.hid (EnsAt.below (w := w10) HP10.out HD.out)
        have HT11 := Lib.hid (HT10.out.below HD.out)
        have CE := params_any HT11.out (by rw [HPP.out]; have := HPL.out; omega)
        rw [HPP.out] at CE
        have CE := Lib.hid CE
        clear HD
        go_wp2_with fail
        refine CE.out.mono ?_
        rintro e w12 ⟨A12, c12, rfl, ho12, hB12⟩
        have HB12 := Lib.hid (HB11.out.trans (hB12.mono HB11.out.size))
        have HT12 := Lib.hid (HT11.out.below hB12)
        have CS := rsame_any A12 T.pars.length c12 T.pars A4 T.pars.length c4 T.pars w12 (EnsAt.of_own ho12) (EnsAt.below (w := w11) HP11.out hB12) (by have := HPL.out; omega)
        rw [decide_eq_true rfl] at CS
        have CS := Lib.hid CS
        clear ho12 hB12 CE
        go_wp2_with fail
        refine CS.out.mono ?_
        rintro e w13 ⟨rfl, dd, rfl⟩
        clear CS
        have HD := Lib.hid (below_drewN (Below.refl w12.heap.size w12) dd)
        generalize w12.drewN dd = w13 at *
        have HB13 := Lib.hid (HB12.out.trans (HD.out.mono HB12.out.size))
        have CL := len_any (HT12.out.below HD.out) (by rw [HLM2.out]; omega) HEL.out
        rw [HLM2.out] at CL
        have CL := Lib.hid CL
        clear HD
        go_wp2_with fail
        refine CL.out.mono ?_
        rintro e w14 ⟨rfl, hB14⟩
        have HB14 := Lib.hid (HBR.out.trans ((HB13.out.trans (hB14.mono HB13.out.size)).mono HBR.out.size))
        clear hB14 CL
        have CL := Lib.hid (live17_any w14 (KnownAt.later HKN.out HB14.out))
        go_wp2_with fail
        refine CL.out.mono ?_
        rintro e w15 ⟨rfl, hB15⟩
        have HB15 := Lib.hid (HB14.out.trans (hB15.mono HB14.out.size))
        clear CL hB15
        go_wp2
        go_ret
        exact ⟨rfl, HB15.out⟩
end Go.Proofs.YtapjmfgpdkghlaaDoor
