/- The contracts of oracle.Check, and of the reference's Find and Told. Conditions: at most 2^20 answers; internal/bytealg.MaxLen holds an int. -/
import Derived.Test.YtkneafpmgbgalaaGreatDoorAnsQ
namespace Go.Proofs.YtkneafpmgbgalaaGreatDoor
open Go.RowKit Go.Maps Go.Proofs.YtkneafpmgbgalaaGreatDoor.UriPlain
set_option linter.unusedVariables false
set_option linter.unusedSimpArgs false
def idxI (l : List AnP) (id : ByteArray) : Int := match idxA l id with | some i => (i : Int) | none => -1
theorem idx_at {l : List AnP} {id : ByteArray} {k : Nat} {a : AnP} (h : errA id = 0) (hn : ∀ b ∈ l.take k, ofA (nrmA id) b = false) (hx : l[k]? = some a) (ha : ofA (nrmA id) a = true) : idxA l id = some k := by
  unfold idxA
  rw [if_pos h, List.findIdx?_eq_some_iff_getElem]
  refine ⟨(List.getElem?_eq_some_iff.1 hx).1, by rw [(List.getElem?_eq_some_iff.1 hx).2]; exact ha, fun j hj ho => ?_⟩
  have hk := (List.getElem?_eq_some_iff.1 hx).1
  have := hn l[j] (List.mem_iff_getElem?.2 ⟨j, by rw [List.getElem?_take, if_pos hj]; exact List.getElem?_eq_getElem (by omega)⟩)
  rw [this] at ho; cases ho
theorem idx_none {l : List AnP} {id : ByteArray} (hn : ∀ b ∈ l, ofA (nrmA id) b = false) : idxA l id = none := by
  unfold idxA
  split
  · rw [List.findIdx?_eq_none_iff]; exact hn
  · rfl
theorem toL_noA {a b : ByteArray} (h : ¬ a = b) : (a.toList == b.toList) = false := by
  rw [beq_eq_false_iff_ne, ByteArray.toList_eq, ByteArray.toList_eq]; exact fun h2 => h (Go.WideShapes.bytes_inj h2)
set_option maxRecDepth 100000 in
set_option maxHeartbeats 8000000 in
theorem rfindO_any (A : Option Addr) (n c : Nat) (l : List An) (id : ByteArray) (w : World) (hl : AnsAt w A n l) (hn : n ≤ 9223372036854775806) :
    Calls Tryz.prog 40 #[.slice A n c, .string id] w (BelI (idxI (l.map An.pl) id) w) := by
  obtain rfl := hl.1
  obtain ⟨r, hr⟩ : ∃ r, r = idxI (l.map An.pl) id := ⟨_, rfl⟩
  rw [← hr]
  have NM := Lib.hid (rnorm_free id w)
  have L := Lib.hid hl
  have HR := Lib.hid hr
  clear hl hr
  go_enter Tryz.func40, Tryz.ntmps40
  go_wp2_with fail
  refine NM.out.mono ?_
  rintro e w1 ⟨rfl, hB1⟩
  rw [show bS (normU id.data.toList) = nrmA id from rfl, show uriE id.data.toList = errA id from rfl]
  have HB1 := Lib.hid hB1
  clear hB1 NM
  by_cases her : errA id = 0
  · rw [her]
    have HER := Lib.hid her
    clear her
    go_wp2
    go_loopw [7] (fun i wr => ∃ (k : Nat), k ≤ l.length ∧ i = .int .i64 k ∧ Hid (∀ b ∈ (l.map An.pl).take k, ofA (nrmA id) b = false) ∧ Hid (Below w.heap.size w wr)) (fun i _ => l.length - (intOf i).toNat)
    case atStart => exact ⟨0, by omega, rfl, (by intro b hb; simp at hb), HB1⟩
    case round =>
      obtain ⟨k, hk', rfl, HN, HB⟩ := hrel
      by_cases hlt : k < l.length
      · obtain ⟨a, x, rfl, hx, hat, hok⟩ := L.out.2 k hlt
        have b0 : (0 : Int) ≤ (k : Int) := by omega
        have b1 : (k : Int) < (l.length : Int) := by omega
        obtain ⟨-, g0, g1, g2⟩ := hat.below HB.out hat.1
        have NM := rnorm_free x.id wr
        have hxp : (l.map An.pl)[k]? = some x.pl := by rw [List.getElem?_map, hx]; rfl
        have hof : ofA (nrmA id) x.pl = (decide (errA x.id = 0) && decide (nrmA x.id = nrmA id)) := rfl
        have HNX : Hid (ofA (nrmA id) x.pl = false → ∀ b ∈ (l.map An.pl).take (k + 1), ofA (nrmA id) b = false) := by
          intro h b hb
          rw [List.take_add_one, hxp] at hb
          rcases List.mem_append.1 hb with hb | hb
          · exact HN.out b hb
          · simp at hb; subst hb; exact h
        have HYX : Hid (ofA (nrmA id) x.pl = true → r = (k : Int)) := by
          intro h
          rw [HR.out]; unfold idxI; rw [idx_at HER.out HN.out hxp h]
        have NM := Lib.hid NM
        clear hx hat hok hxp
        go_wp2_with fail
        refine NM.out.mono ?_
        rintro e w3 ⟨rfl, hB3⟩
        have HB3 := Lib.hid (HB.out.trans (hB3.mono HB.out.size))
        rw [show bS (normU x.id.data.toList) = nrmA x.id from rfl, show uriE x.id.data.toList = errA x.id from rfl]
        by_cases her : errA x.id = 0
        · by_cases hnm : nrmA x.id = nrmA id
          · have t2 : ((nrmA x.id).toList == (nrmA id).toList) = true := by rw [hnm]; simp
            have HQ := Lib.hid (HYX.out (by rw [hof, decide_eq_true her, decide_eq_true hnm]; rfl))
            rw [her]
            clear her hnm hof hB3 NM g0 g1 g2
            generalize nrmA x.id = nx at *
            generalize nrmA id = ni at *
            go_wp2
            go_ret
            exact ⟨by rw [HQ.out]; rfl, HB3.out⟩
          · have t2 : ((nrmA x.id).toList == (nrmA id).toList) = false := toL_noA hnm
            have HQ := Lib.hid (HNX.out (by rw [hof, decide_eq_false hnm, Bool.and_false]))
            rw [her]
            clear her hnm hof hB3 NM g0 g1 g2
            generalize nrmA x.id = nx at *
            go_wp2
            go_roundw
            case rel => exact ⟨k + 1, by omega, by go_num, HQ, HB3⟩
            case measure => simp [intOf]; omega
        · have t1 : (errA x.id == 0) = false := by simpa using her
          have HQ := Lib.hid (HNX.out (by rw [hof, decide_eq_false her, Bool.false_and]))
          clear her hof hB3 NM g0 g1 g2
          generalize errA x.id = ex at *
          generalize nrmA x.id = nx at *
          go_wp2
          go_roundw
          case rel => exact ⟨k + 1, by omega, by go_num, HQ, HB3⟩
          case measure => simp [intOf]; omega
      · obtain rfl : k = l.length := by omega
        have hn2 := HN.out
        rw [List.take_of_length_le (by simp)] at hn2
        have HQ : Hid (r = -1) := by show _ = _; rw [HR.out]; unfold idxI; rw [idx_none hn2]
        clear hn2
        go_wp2
        go_ret
        exact ⟨by rw [HQ.out]; rfl, HB.out⟩
  · have t1 : (errA id != 0) = true := by simpa using her
    have HQ : Hid (r = -1) := by show _ = _; rw [HR.out]; unfold idxI idxA; rw [if_neg her]
    clear her
    go_wp2
    go_ret
    exact ⟨by rw [HQ.out]; rfl, HB1.out⟩
def TellTold (o : Option AnP) (w0 w : World) (e : Ending) (w' : World) : Prop := ∃ (y : An), e = .returned (.tuple #[.agg #[.string y.id, .bool y.ok, .slice y.D y.n y.c], .bool o.isSome]) ∧ y.pl = o.getD zeroA ∧ AnOk w0 y ∧ Below w.heap.size w w'
theorem zero_ok (w : World) : AnOk w ⟨⟨#[]⟩, false, none, 0, 0, []⟩ := ⟨⟨rfl, fun k hk => absurd hk (by simp)⟩, Nat.le_refl _, by simp⟩
theorem idx_lt {l : List AnP} {id : ByteArray} {i : Nat} (h : idxA l id = some i) : errA id = 0 ∧ i < l.length := by
  unfold idxA at h
  split at h
  · rename_i h2
    exact ⟨h2, (List.findIdx?_eq_some_iff_getElem.1 h).1⟩
  · cases h
set_option maxRecDepth 100000 in
set_option maxHeartbeats 8000000 in
theorem rtold_any (A : Option Addr) (n c : Nat) (l : List An) (id : ByteArray) (wz w : World) (hl : AnsAt wz A n l) (hbz : Below wz.heap.size wz w) (hn : n ≤ 9223372036854775806) :
    Calls Tryz.prog 28 #[.slice A n c, .string id] w (TellTold (toldA (l.map An.pl) id) wz w) := by
  obtain rfl := hl.1
  obtain ⟨W0, hW0⟩ : ∃ W0, W0 = w.alloc (.cells #[.string ⟨#[]⟩, .bool false, .slice none 0 0] 51) := ⟨_, rfl⟩
  have hB0 : Below w.heap.size w W0 := by rw [hW0]; exact (Below.refl _ _).alloc (Nat.le_refl _) _
  have hh0 : W0.heap[w.heap.size]? = some (.cells #[.string ⟨#[]⟩, .bool false, .slice none 0 0] 51 (0, 0)) := by rw [hW0]; exact heap_alloc_new w _
  have hs0 : w.heap.size < W0.heap.size := by rw [hW0]; simp
  have F := Lib.hid (rfindO_any A l.length c l id W0 ((hl.below hbz).below (hB0.mono (Nat.le_refl _))) hn)
  have HBZ := Lib.hid hbz
  obtain ⟨o, ho⟩ : ∃ o, o = toldA (l.map An.pl) id := ⟨_, rfl⟩
  rw [← ho]
  have HO := Lib.hid ho
  have L := Lib.hid hl
  have HW0 := Lib.hid hW0
  have HB0 := Lib.hid hB0
  have HH0 := Lib.hid hh0
  have HS0 := Lib.hid hs0
  clear hl hbz hW0 hB0 hh0 hs0 ho
  go_enter Tryz.func28, Tryz.ntmps28
  go_wp2_with fail
  rw [← HW0.out]
  refine F.out.mono ?_
  rintro e w1 ⟨rfl, hB1⟩
  have hh1 := (hB1.block _ HS0.out).trans HH0.out
  have HB1 := Lib.hid hB1
  have HH1 := Lib.hid hh1
  have hs1 : w.heap.size < w1.heap.size := Nat.lt_of_lt_of_le HS0.out hB1.size
  clear hB1 hh1 F
  cases hi : idxA (l.map An.pl) id with
  | none =>
    have HI : Hid (idxI (l.map An.pl) id = -1) := by show _ = _; unfold idxI; rw [hi]
    have ho : o = none := by rw [HO.out]; unfold toldA; rw [hi]; rfl
    subst ho
    rw [HI.out]
    have d0 : w1.cell? ⟨w.heap.size, 0, none⟩ = some (.string ⟨#[]⟩) := by rw [Lib.cell_of_heap HH1.out]; rfl
    have d1 : w1.cell? ⟨w.heap.size, 1, none⟩ = some (.bool false) := by rw [Lib.cell_of_heap HH1.out]; rfl
    have d2 : w1.cell? ⟨w.heap.size, 2, none⟩ = some (.slice none 0 0) := by rw [Lib.cell_of_heap HH1.out]; rfl
    have f0 := Lib.frozen_of_heap HH1.out 0
    have f1 := Lib.frozen_of_heap HH1.out 1
    have f2 := Lib.frozen_of_heap HH1.out 2
    have HBB := Lib.hid (HB0.out.trans (HB1.out.mono HB0.out.size))
    clear hi HO
    go_wp2
    refine bodyPost_ret (v := .tuple #[.agg #[.string ⟨#[]⟩, .bool false, .slice none 0 0], .bool false]) (by simp [results, Tryz.results28, go_sem, d0, d1, d2, f0, f1, f2]) rfl ?_
    exact ⟨⟨⟨#[]⟩, false, none, 0, 0, []⟩, rfl, rfl, zero_ok _, ((HBB.out.setCell (by simp) _).setCell (by simp) _).setCell (by simp) _⟩
  | some i =>
    obtain ⟨her, hil⟩ := idx_lt hi
    rw [List.length_map] at hil
    obtain ⟨a, x, hA, hx, hat, hok⟩ := L.out.2 i hil
    subst hA
    have HI : Hid (idxI (l.map An.pl) id = (i : Int)) := by show _ = _; unfold idxI; rw [hi]
    have ho : o = some ⟨nrmA id, x.ok, if x.ok then x.da else []⟩ := by rw [HO.out]; unfold toldA; rw [hi, Option.bind_some, List.getElem?_map, hx]; rfl
    rw [HI.out]
    have b0 : (0 : Int) ≤ (i : Int) := by omega
    have b1 : (i : Int) < (l.length : Int) := by omega
    have B01 := HB0.out.trans (HB1.out.mono HB0.out.size)
    obtain ⟨-, g0, g1, g2⟩ := hat.below (HBZ.out.trans (B01.mono HBZ.out.size)) hat.1
    obtain ⟨W, hW, hbW, hhW, hltW, c0, c1, c2⟩ := anBox w1 x 51
    have HBW := Lib.hid (B01.trans (hbW.mono B01.size))
    have hhR := (hbW.block _ hs1).trans HH1.out
    have NM := rnorm_free id W
    have OK := Lib.hid hok
    have HHR := Lib.hid hhR
    have HHW := Lib.hid hhW
    have HBb := Lib.hid hbW
    have HLW := Lib.hid hltW
    have NM := Lib.hid NM
    have hrw : w.heap.size < W.heap.size := Nat.lt_of_lt_of_le hs1 hbW.size
    have HER := Lib.hid her
    have HOE := Lib.hid ho
    clear hi hx hat hok hbW hhW hhR B01 HO her hltW ho
    go_wp2_with fail
    refine NM.out.mono ?_
    rintro e w3 ⟨rfl, hB3⟩
    rw [show bS (normU id.data.toList) = nrmA id from rfl, show uriE id.data.toList = errA id from rfl, HER.out]
    have hh3 := (hB3.block _ HLW.out).trans HHW.out
    have hr3 := (hB3.block _ hrw).trans HHR.out
    have HB3 := Lib.hid (HBW.out.trans (hB3.mono HBW.out.size))
    have c0 : w3.cell? ⟨w1.heap.size, 0, none⟩ = some (.string x.id) := by rw [Lib.cell_of_heap hh3]; rfl
    have c1 : w3.cell? ⟨w1.heap.size, 1, none⟩ = some (.bool x.ok) := by rw [Lib.cell_of_heap hh3]; rfl
    have c2 : w3.cell? ⟨w1.heap.size, 2, none⟩ = some (.slice x.D x.n x.c) := by rw [Lib.cell_of_heap hh3]; rfl
    have e0 := Lib.frozen_of_heap hh3 0
    have e2 := Lib.frozen_of_heap hh3 2
    have d0 : w3.cell? ⟨w.heap.size, 0, none⟩ = some (.string ⟨#[]⟩) := by rw [Lib.cell_of_heap hr3]; rfl
    have d1 : w3.cell? ⟨w.heap.size, 1, none⟩ = some (.bool false) := by rw [Lib.cell_of_heap hr3]; rfl
    have d2 : w3.cell? ⟨w.heap.size, 2, none⟩ = some (.slice none 0 0) := by rw [Lib.cell_of_heap hr3]; rfl
    have f0 := Lib.frozen_of_heap hr3 0
    have f1 := Lib.frozen_of_heap hr3 1
    have f2 := Lib.frozen_of_heap hr3 2
    have n1 : ¬ w.heap.size = w1.heap.size := by omega
    have n2 : ¬ w1.heap.size = w.heap.size := by omega
    have hz : w.heap.size ≤ w1.heap.size := Nat.le_of_lt hs1
    clear hh3 hr3 hB3 NM g0 g1 g2 HHW HHR HLW
    have ho := HOE.out
    clear HOE
    generalize nrmA id = nm at *
    cases hok : x.ok with
    | true =>
      rw [hok] at c1 ho
      have ho2 : o = some ⟨nm, true, x.da⟩ := by rw [ho]; simp
      have HOO := Lib.hid ho2
      clear ho ho2 hok
      go_wp2
      refine bodyPost_ret (v := .tuple #[.agg #[.string nm, .bool true, .slice x.D x.n x.c], .bool true]) (by simp [results, Tryz.results28, go_sem, c0, c1, c2, d0, d1, d2, e0, e2, f0, f1, f2, n1, n2]) rfl ?_
      have HF := ((((HB3.out.setCell (p := ⟨w1.heap.size, 0, none⟩) hz (.string nm)).setCell (p := ⟨w.heap.size, 0, none⟩) (Nat.le_refl _) (.string nm)).setCell (p := ⟨w.heap.size, 1, none⟩) (Nat.le_refl _) (.bool true)).setCell (p := ⟨w.heap.size, 2, none⟩) (Nat.le_refl _) (.slice x.D x.n x.c))
      rw [HOO.out]
      exact ⟨⟨nm, true, x.D, x.n, x.c, x.da⟩, rfl, rfl, OK.out, HF⟩
    | false =>
      rw [hok] at c1 ho
      have ho2 : o = some ⟨nm, false, []⟩ := by rw [ho]; simp
      have HOO := Lib.hid ho2
      clear ho ho2 hok
      go_wp2
      refine bodyPost_ret (v := .tuple #[.agg #[.string nm, .bool false, .slice none 0 0], .bool true]) (by simp [results, Tryz.results28, go_sem, c0, c1, c2, d0, d1, d2, e0, e2, f0, f1, f2, n1, n2]) rfl ?_
      rw [HOO.out]
      refine ⟨⟨nm, false, none, 0, 0, []⟩, rfl, rfl, ⟨⟨rfl, fun k hk => absurd hk (by simp)⟩, Nat.le_refl _, by simp⟩, ?_⟩
      exact (((((HB3.out.setCell (p := ⟨w1.heap.size, 0, none⟩) hz _).setCell (p := ⟨w1.heap.size, 2, none⟩) hz _).setCell (p := ⟨w.heap.size, 0, none⟩) (Nat.le_refl _) _).setCell (p := ⟨w.heap.size, 1, none⟩) (Nat.le_refl _) _).setCell (p := ⟨w.heap.size, 2, none⟩) (Nat.le_refl _) _)
end Go.Proofs.YtkneafpmgbgalaaGreatDoor
