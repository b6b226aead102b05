/- The contracts of oracle.Check, and of the reference's Find and Told. Conditions: at most 2^20 answers; internal/bytealg.MaxLen holds an int. -/
import Derived.Test.YtkpefendeonemaaDoorAnsQ
namespace Go.Proofs.YtkpefendeonemaaDoor
open Go.RowKit Go.Maps Go.Proofs.YtkpefendeonemaaDoor.UriPlain
set_option linter.unusedVariables false
set_option linter.unusedSimpArgs false
set_option maxRecDepth 100000 in
set_option maxHeartbeats 8000000 in
theorem ocheck_any (A : Option Addr) (n c : Nat) (l : List An) (w : World) (m : Int) (hl : AnsAt w A n l) (hn : n ≤ 9223372036854775807) (hm : w.cell? ⟨0, 0, none⟩ = some (.int .i64 m)) :
    Calls Tryd.prog 13 #[.slice A n c] w (BelI (checkA (l.map An.pl)) w) := by
  obtain rfl := hl.1
  obtain ⟨r, hr⟩ : ∃ r, r = checkA (l.map An.pl) := ⟨_, rfl⟩
  rw [← hr]
  by_cases h256 : 256 < l.length
  · have t0 : (256 : Int) < (l.length : Int) := by omega
    have HR := Lib.hid (hr.trans (check_big (by rw [List.length_map]; exact h256)))
    clear hl hm hr h256
    go_enter Tryd.func13, Tryd.ntmps13
    go_wp2
    go_ret
    exact ⟨by rw [HR.out]; rfl, Below.refl _ _⟩
  · have t0 : ¬ (256 : Int) < (l.length : Int) := by omega
    have hmm := @run_makeMap Tryd.prog
    obtain ⟨W1, hW1⟩ : ∃ W1, W1 = w.alloc (.map #[] 0) := ⟨_, rfl⟩
    have hB1 : Below w.heap.size w W1 := by rw [hW1]; exact (Below.refl _ _).alloc (Nat.le_refl _) _
    have hmap1 : W1.ownsMap Tryd.prog 9 (plainElem (H := Unit) Tryd.prog 3) w.heap.size 0 (.map []) := by rw [hW1]; exact World.ownsMap_made (H := Unit) w Tryd.prog 9 _
    have hlt0 : 0 < w.heap.size := World.block_lt_of_cell? _ _ hm
    have HW1 := Lib.hid hW1
    have L := Lib.hid hl
    have HB1 := Lib.hid hB1
    have HM1 := Lib.hid hmap1
    have HM := Lib.hid hm
    have HL0 := Lib.hid hlt0
    have HR := Lib.hid hr
    have H256 := Lib.hid h256
    clear hl hW1 hB1 hmap1 hm hlt0 hr
    go_enter Tryd.func13, Tryd.ntmps13
    go_upto_region 4 with (fail)
    rw [← HW1.out]
    clear hmm
    go_wp2
    go_loopw [14] (fun i wr => ∃ (k : Nat) (D : DataW Unit), k ≤ l.length ∧ i = .int .i64 k ∧ Hid (∀ j, j < k → dupA (l.map An.pl) j = false) ∧ Hid (wr.ownsMap Tryd.prog 9 (plainElem (H := Unit) Tryd.prog 3) w.heap.size k D) ∧ Hid (KeyM D (seenA (l.map An.pl) k)) ∧ Hid (Below w.heap.size w wr)) (fun i _ => l.length - (intOf i).toNat)
    case atStart => exact ⟨0, _, by omega, rfl, (fun j hj => absurd hj (by omega)), HM1, KeyM_nil, HB1⟩
    case round =>
      obtain ⟨k, D, hk', rfl, HN, HMP, HK, HB⟩ := hrel
      by_cases hlt : k < l.length
      · obtain ⟨a, x, rfl, hx, hat, hok⟩ := L.out.2 k hlt
        have b0 : (0 : Int) ≤ (k : Int) := by omega
        have b1 : (k : Int) < (l.length : Int) := by omega
        obtain ⟨-, g0, g1, g2⟩ := hat.below HB.out hat.1
        obtain ⟨W, hW, hbW, hhW, hltW, c0, c1, c2⟩ := anBox wr x 27
        have HBW := Lib.hid (HB.out.trans (hbW.mono HB.out.size))
        have NM := norm_free x.id W m ((HBW.out.cell (p := ⟨0, 0, none⟩) HL0.out).trans HM.out)
        have hxp : (l.map An.pl)[k]? = some x.pl := by rw [List.getElem?_map, hx]; rfl
        have hpid : x.pl.id = x.id := rfl
        have hy := seenA_yes hxp
        have hno := seenA_no hxp
        have hsd := seen_dup hxp
        have hde := dup_err hxp
        have hcl := cntM_le (seenA (l.map An.pl) k) (nrmA x.id)
        have hsl := seenA_len (l.map An.pl) k
        rw [hpid] at hy hno hsd hde
        have HMW := Lib.hid (mapM_below HMP.out hbW)
        have NM := Lib.hid NM
        clear hx hat hok hbW hhW hltW HMP hxp hpid
        go_wp2_with fail
        refine NM.out.mono ?_
        rintro e w3 ⟨rfl, hB3⟩
        have HB3 := Lib.hid (HBW.out.trans (hB3.mono HBW.out.size))
        have HM3 := Lib.hid (mapM_below HMW.out hB3)
        have hnz := nrmA_size x.id
        rw [show bS (normU x.id.data.toList) = nrmA x.id from rfl, show uriE x.id.data.toList = errA x.id from rfl]
        generalize nrmA x.id = nm at *
        have HNX : Hid (dupA (l.map An.pl) k = false → ∀ j, j < k + 1 → dupA (l.map An.pl) j = false) := by
          intro h j hj
          rcases Nat.lt_or_eq_of_le (Nat.lt_succ_iff.1 hj) with h2 | rfl
          · exact HN.out j h2
          · exact h
        by_cases her : errA x.id = 0
        · rw [her]
          have hat0 := HK.out nm
          have hkm := KeyM_put (x := nm) HK.out HMW.out.isMap
          have hseen := hy her
          have hdup := hsd her
          have hcs : cntM (seenA (l.map An.pl) (k + 1)) nm = cntM (seenA (l.map An.pl) k) nm + 1 := by rw [hseen, cntM_same]
          rw [← hseen] at hkm
          generalize cntM (seenA (l.map An.pl) k) nm = cn at *
          have hkey : keyOf Tryd.prog 9 (.string nm) = some (.string nm.data.toList) := WideMaps.keyOf_string_mk Tryd.underlying9 (by unfold maxLen; omega)
          obtain ⟨cv, hrun, hat, _⟩ := HM3.out.lookup_int lawM Tryd.underlying47 Tryd.underlying3 (zeroM _) hkey
          rw [hat0] at hat
          obtain rfl := litIntM hat
          have hwf : (Lit.int .i64 ((cn : Int) + 1)).wf = true := by
            have h1 := wrap64_wf ((cn : Int) + 1)
            rwa [show wrap64 ((cn : Int) + 1) = (cn : Int) + 1 from by unfold wrap64; omega] at h1
          have HKEY := Lib.hid hkey
          have HKM := Lib.hid hkm
          have HDUP := Lib.hid hdup
          have HCS := Lib.hid hcs
          clear hy hno hsd hde hat hat0 hkey hkm hseen hdup hcs her HMW HBW hB3 NM g0 g1 g2 c0 c1 c2
          go_wp2_with (at_mapUpdate; refine wpList_mapUpdate_own _ rfl _ _ _ 47 rfl 9 3 lawM Tryd.underlying47 _ w.heap.size k _ rfl HM3.out (by unfold maxLen; omega) _ _ _ rfl rfl HKEY.out _ [] (plainElem_int Tryd.underlying3 hwf) ?_)
          intro w4 hown1 hgrow1
          have HB4 := Lib.hid (HB3.out.grown hgrow1 HB3.out.size (fun g h => by injection h with h; omega))
          have hat1 := HKM.out nm
          obtain ⟨cv, hrun2, hat2, _⟩ := hown1.lookup_int lawM Tryd.underlying47 Tryd.underlying3 (zeroM _) HKEY.out
          rw [hat1] at hat2
          have hc1 := litIntM hat2
          rw [HCS.out] at hc1
          subst hc1
          have HM4 := Lib.hid hown1
          clear hown1 hgrow1 hat1 hat2 hrun
          rw [show ((cn + 1 : Nat) : Int) = (cn : Int) + 1 from Int.natCast_succ cn] at hrun2
          by_cases hcn : cn = 0
          · have HD := Lib.hid (HDUP.out.1 hcn)
            have t1 : ¬ (1 : Int) < (cn : Int) + 1 := by omega
            clear hcn hwf
            go_wp2
            go_roundw
            case rel => exact ⟨k + 1, _, by omega, by go_num, HNX.out HD.out, HM4, HKM, HB4⟩
            case measure => simp [intOf]; omega
          · have hdt : dupA (l.map An.pl) k = true := by
              cases hd : dupA (l.map An.pl) k with
              | true => rfl
              | false => exact absurd (HDUP.out.2 hd) hcn
            have HR2 := Lib.hid (HR.out.trans (check_dup (by rw [List.length_map]; exact H256.out) (by rw [List.length_map]; exact hlt) hdt))
            have t1 : (1 : Int) < (cn : Int) + 1 := by omega
            clear hdt hcn hwf
            go_wp2
            go_ret
            exact ⟨by rw [HR2.out]; rfl, HB4.out⟩
        · have t1 : (errA x.id == 0) = false := by simpa using her
          have HS := Lib.hid (hno her)
          have HD := Lib.hid (hde her)
          clear hy hno hsd hde her
          go_wp2
          go_roundw
          case rel => exact ⟨k + 1, D, by omega, by go_num, HNX.out HD.out, HM3.out.mono (Nat.le_succ _), by rw [HS.out]; exact HK, HB3⟩
          case measure => simp [intOf]; omega
      · obtain rfl : k = l.length := by omega
        have HR2 := Lib.hid (HR.out.trans (check_ok (by rw [List.length_map]; exact H256.out) (fun j hj => HN.out j (by rwa [List.length_map] at hj))))
        go_wp2
        go_ret
        exact ⟨by rw [HR2.out]; rfl, HB.out⟩
def idxI (l : List AnP) (id : ByteArray) : Int := match idxA l id with | some i => (i : Int) | none => -1
theorem idx_at {l : List AnP} {id : ByteArray} {k : Nat} {a : AnP} (h : errA id = 0) (hn : ∀ b ∈ l.take k, ofA (nrmA id) b = false) (hx : l[k]? = some a) (ha : ofA (nrmA id) a = true) : idxA l id = some k := by
  unfold idxA
  rw [if_pos h, List.findIdx?_eq_some_iff_getElem]
  refine ⟨(List.getElem?_eq_some_iff.1 hx).1, by rw [(List.getElem?_eq_some_iff.1 hx).2]; exact ha, fun j hj ho => ?_⟩
  have hk := (List.getElem?_eq_some_iff.1 hx).1
  have := hn l[j] (List.mem_iff_getElem?.2 ⟨j, by rw [List.getElem?_take, if_pos hj]; exact List.getElem?_eq_getElem (by omega)⟩)
  rw [this] at ho; cases ho
theorem idx_none {l : List AnP} {id : ByteArray} (hn : ∀ b ∈ l, ofA (nrmA id) b = false) : idxA l id = none := by
  unfold idxA
  split
  · rw [List.findIdx?_eq_none_iff]; exact hn
  · rfl
theorem toL_noA {a b : ByteArray} (h : ¬ a = b) : (a.toList == b.toList) = false := by
  rw [beq_eq_false_iff_ne, ByteArray.toList_eq, ByteArray.toList_eq]; exact fun h2 => h (Go.WideShapes.bytes_inj h2)
set_option maxRecDepth 100000 in
set_option maxHeartbeats 8000000 in
theorem rfindO_any (A : Option Addr) (n c : Nat) (l : List An) (id : ByteArray) (w : World) (hl : AnsAt w A n l) (hn : n ≤ 9223372036854775806) :
    Calls Tryd.prog 20 #[.slice A n c, .string id] w (BelI (idxI (l.map An.pl) id) w) := by
  obtain rfl := hl.1
  obtain ⟨r, hr⟩ : ∃ r, r = idxI (l.map An.pl) id := ⟨_, rfl⟩
  rw [← hr]
  have NM := Lib.hid (rnorm_free id w)
  have L := Lib.hid hl
  have HR := Lib.hid hr
  clear hl hr
  go_enter Tryd.func20, Tryd.ntmps20
  go_wp2_with fail
  refine NM.out.mono ?_
  rintro e w1 ⟨rfl, hB1⟩
  rw [show bS (normU id.data.toList) = nrmA id from rfl, show uriE id.data.toList = errA id from rfl]
  have HB1 := Lib.hid hB1
  clear hB1 NM
  by_cases her : errA id = 0
  · rw [her]
    have HER := Lib.hid her
    clear her
    go_wp2
    go_loopw [7] (fun i wr => ∃ (k : Nat), k ≤ l.length ∧ i = .int .i64 k ∧ Hid (∀ b ∈ (l.map An.pl).take k, ofA (nrmA id) b = false) ∧ Hid (Below w.heap.size w wr)) (fun i _ => l.length - (intOf i).toNat)
    case atStart => exact ⟨0, by omega, rfl, (by intro b hb; simp at hb), HB1⟩
    case round =>
      obtain ⟨k, hk', rfl, HN, HB⟩ := hrel
      by_cases hlt : k < l.length
      · obtain ⟨a, x, rfl, hx, hat, hok⟩ := L.out.2 k hlt
        have b0 : (0 : Int) ≤ (k : Int) := by omega
        have b1 : (k : Int) < (l.length : Int) := by omega
        obtain ⟨-, g0, g1, g2⟩ := hat.below HB.out hat.1
        have NM := rnorm_free x.id wr
        have hxp : (l.map An.pl)[k]? = some x.pl := by rw [List.getElem?_map, hx]; rfl
        have hof : ofA (nrmA id) x.pl = (decide (errA x.id = 0) && decide (nrmA x.id = nrmA id)) := rfl
        have HNX : Hid (ofA (nrmA id) x.pl = false → ∀ b ∈ (l.map An.pl).take (k + 1), ofA (nrmA id) b = false) := by
          intro h b hb
          rw [List.take_add_one, hxp] at hb
          rcases List.mem_append.1 hb with hb | hb
          · exact HN.out b hb
          · simp at hb; subst hb; exact h
        have HYX : Hid (ofA (nrmA id) x.pl = true → r = (k : Int)) := by
          intro h
          rw [HR.out]; unfold idxI; rw [idx_at HER.out HN.out hxp h]
        have NM := Lib.hid NM
        clear hx hat hok hxp
        go_wp2_with fail
        refine NM.out.mono ?_
        rintro e w3 ⟨rfl, hB3⟩
        have HB3 := Lib.hid (HB.out.trans (hB3.mono HB.out.size))
        rw [show bS (normU x.id.data.toList) = nrmA x.id from rfl, show uriE x.id.data.toList = errA x.id from rfl]
        by_cases her : errA x.id = 0
        · by_cases hnm : nrmA x.id = nrmA id
          · have t2 : ((nrmA x.id).toList == (nrmA id).toList) = true := by rw [hnm]; simp
            have HQ := Lib.hid (HYX.out (by rw [hof, decide_eq_true her, decide_eq_true hnm]; rfl))
            rw [her]
            clear her hnm hof hB3 NM g0 g1 g2
            generalize nrmA x.id = nx at *
            generalize nrmA id = ni at *
            go_wp2
            go_ret
            exact ⟨by rw [HQ.out]; rfl, HB3.out⟩
          · have t2 : ((nrmA x.id).toList == (nrmA id).toList) = false := toL_noA hnm
            have HQ := Lib.hid (HNX.out (by rw [hof, decide_eq_false hnm, Bool.and_false]))
            rw [her]
            clear her hnm hof hB3 NM g0 g1 g2
            generalize nrmA x.id = nx at *
            go_wp2
            go_roundw
            case rel => exact ⟨k + 1, by omega, by go_num, HQ, HB3⟩
            case measure => simp [intOf]; omega
        · have t1 : (errA x.id == 0) = false := by simpa using her
          have HQ := Lib.hid (HNX.out (by rw [hof, decide_eq_false her, Bool.false_and]))
          clear her hof hB3 NM g0 g1 g2
          generalize errA x.id = ex at *
          generalize nrmA x.id = nx at *
          go_wp2
          go_roundw
          case rel => exact ⟨k + 1, by omega, by go_num, HQ, HB3⟩
          case measure => simp [intOf]; omega
      · obtain rfl : k = l.length := by omega
        have hn2 := HN.out
        rw [List.take_of_length_le (by simp)] at hn2
        have HQ : Hid (r = -1) := by show _ = _; rw [HR.out]; unfold idxI; rw [idx_none hn2]
        clear hn2
        go_wp2
        go_ret
        exact ⟨by rw [HQ.out]; rfl, HB.out⟩
  · have t1 : (errA id != 0) = true := by simpa using her
    have HQ : Hid (r = -1) := by show _ = _; rw [HR.out]; unfold idxI idxA; rw [if_neg her]
    clear her
    go_wp2
    go_ret
    exact ⟨by rw [HQ.out]; rfl, HB1.out⟩
def TellTold (o : Option AnP) (w0 w : World) (e : Ending) (w' : World) : Prop := ∃ (y : An), e = .returned (.tuple #[.agg #[.string y.id, .bool y.ok, .slice y.D y.n y.c], .bool o.isSome]) ∧ y.pl = o.getD zeroA ∧ AnOk w0 y ∧ Below w.heap.size w w'
theorem zero_ok (w : World) : AnOk w ⟨⟨#[]⟩, false, none, 0, 0, []⟩ := ⟨⟨rfl, fun k hk => absurd hk (by simp)⟩, Nat.le_refl _, by simp⟩
theorem idx_lt {l : List AnP} {id : ByteArray} {i : Nat} (h : idxA l id = some i) : errA id = 0 ∧ i < l.length := by
  unfold idxA at h
  split at h
  · rename_i h2
    exact ⟨h2, (List.findIdx?_eq_some_iff_getElem.1 h).1⟩
  · cases h
set_option maxRecDepth 100000 in
set_option maxHeartbeats 8000000 in
theorem rtold_any (A : Option Addr) (n c : Nat) (l : List An) (id : ByteArray) (wz w : World) (hl : AnsAt wz A n l) (hbz : Below wz.heap.size wz w) (hn : n ≤ 9223372036854775806) :
    Calls Tryd.prog 8 #[.slice A n c, .string id] w (TellTold (toldA (l.map An.pl) id) wz w) := by
  obtain rfl := hl.1
  obtain ⟨W0, hW0⟩ : ∃ W0, W0 = w.alloc (.cells #[.string ⟨#[]⟩, .bool false, .slice none 0 0] 27) := ⟨_, rfl⟩
  have hB0 : Below w.heap.size w W0 := by rw [hW0]; exact (Below.refl _ _).alloc (Nat.le_refl _) _
  have hh0 : W0.heap[w.heap.size]? = some (.cells #[.string ⟨#[]⟩, .bool false, .slice none 0 0] 27 (0, 0)) := by rw [hW0]; exact heap_alloc_new w _
  have hs0 : w.heap.size < W0.heap.size := by rw [hW0]; simp
  have F := Lib.hid (rfindO_any A l.length c l id W0 ((hl.below hbz).below (hB0.mono (Nat.le_refl _))) hn)
  have HBZ := Lib.hid hbz
  obtain ⟨o, ho⟩ : ∃ o, o = toldA (l.map An.pl) id := ⟨_, rfl⟩
  rw [← ho]
  have HO := Lib.hid ho
  have L := Lib.hid hl
  have HW0 := Lib.hid hW0
  have HB0 := Lib.hid hB0
  have HH0 := Lib.hid hh0
  have HS0 := Lib.hid hs0
  clear hl hbz hW0 hB0 hh0 hs0 ho
  go_enter Tryd.func8, Tryd.ntmps8
  go_wp2_with fail
  rw [← HW0.out]
  refine F.out.mono ?_
  rintro e w1 ⟨rfl, hB1⟩
  have hh1 := (hB1.block _ HS0.out).trans HH0.out
  have HB1 := Lib.hid hB1
  have HH1 := Lib.hid hh1
  have hs1 : w.heap.size < w1.heap.size := Nat.lt_of_lt_of_le HS0.out hB1.size
  clear hB1 hh1 F
  cases hi : idxA (l.map An.pl) id with
  | none =>
    have HI : Hid (idxI (l.map An.pl) id = -1) := by show _ = _; unfold idxI; rw [hi]
    have ho : o = none := by rw [HO.out]; unfold toldA; rw [hi]; rfl
    subst ho
    rw [HI.out]
    have d0 : w1.cell? ⟨w.heap.size, 0, none⟩ = some (.string ⟨#[]⟩) := by rw [Lib.cell_of_heap HH1.out]; rfl
    have d1 : w1.cell? ⟨w.heap.size, 1, none⟩ = some (.bool false) := by rw [Lib.cell_of_heap HH1.out]; rfl
    have d2 : w1.cell? ⟨w.heap.size, 2, none⟩ = some (.slice none 0 0) := by rw [Lib.cell_of_heap HH1.out]; rfl
    have f0 := Lib.frozen_of_heap HH1.out 0
    have f1 := Lib.frozen_of_heap HH1.out 1
    have f2 := Lib.frozen_of_heap HH1.out 2
    have HBB := Lib.hid (HB0.out.trans (HB1.out.mono HB0.out.size))
    clear hi HO
    go_wp2
    refine bodyPost_ret (v := .tuple #[.agg #[.string ⟨#[]⟩, .bool false, .slice none 0 0], .bool false]) (by simp [results, Tryd.results8, go_sem, d0, d1, d2, f0, f1, f2]) rfl ?_
    exact ⟨⟨⟨#[]⟩, false, none, 0, 0, []⟩, rfl, rfl, zero_ok _, ((HBB.out.setCell (by simp) _).setCell (by simp) _).setCell (by simp) _⟩
  | some i =>
    obtain ⟨her, hil⟩ := idx_lt hi
    rw [List.length_map] at hil
    obtain ⟨a, x, hA, hx, hat, hok⟩ := L.out.2 i hil
    subst hA
    have HI : Hid (idxI (l.map An.pl) id = (i : Int)) := by show _ = _; unfold idxI; rw [hi]
    have ho : o = some ⟨nrmA id, x.ok, if x.ok then x.da else []⟩ := by rw [HO.out]; unfold toldA; rw [hi, Option.bind_some, List.getElem?_map, hx]; rfl
    rw [HI.out]
    have b0 : (0 : Int) ≤ (i : Int) := by omega
    have b1 : (i : Int) < (l.length : Int) := by omega
    have B01 := HB0.out.trans (HB1.out.mono HB0.out.size)
    obtain ⟨-, g0, g1, g2⟩ := hat.below (HBZ.out.trans (B01.mono HBZ.out.size)) hat.1
    obtain ⟨W, hW, hbW, hhW, hltW, c0, c1, c2⟩ := anBox w1 x 27
    have HBW := Lib.hid (B01.trans (hbW.mono B01.size))
    have hhR := (hbW.block _ hs1).trans HH1.out
    have NM := rnorm_free id W
    have OK := Lib.hid hok
    have HHR := Lib.hid hhR
    have HHW := Lib.hid hhW
    have HBb := Lib.hid hbW
    have HLW := Lib.hid hltW
    have NM := Lib.hid NM
    have hrw : w.heap.size < W.heap.size := Nat.lt_of_lt_of_le hs1 hbW.size
    have HER := Lib.hid her
    have HOE := Lib.hid ho
    clear hi hx hat hok hbW hhW hhR B01 HO her hltW ho
    go_wp2_with fail
    refine NM.out.mono ?_
    rintro e w3 ⟨rfl, hB3⟩
    rw [show bS (normU id.data.toList) = nrmA id from rfl, show uriE id.data.toList = errA id from rfl, HER.out]
    have hh3 := (hB3.block _ HLW.out).trans HHW.out
    have hr3 := (hB3.block _ hrw).trans HHR.out
    have HB3 := Lib.hid (HBW.out.trans (hB3.mono HBW.out.size))
    have c0 : w3.cell? ⟨w1.heap.size, 0, none⟩ = some (.string x.id) := by rw [Lib.cell_of_heap hh3]; rfl
    have c1 : w3.cell? ⟨w1.heap.size, 1, none⟩ = some (.bool x.ok) := by rw [Lib.cell_of_heap hh3]; rfl
    have c2 : w3.cell? ⟨w1.heap.size, 2, none⟩ = some (.slice x.D x.n x.c) := by rw [Lib.cell_of_heap hh3]; rfl
    have e0 := Lib.frozen_of_heap hh3 0
    have e2 := Lib.frozen_of_heap hh3 2
    have d0 : w3.cell? ⟨w.heap.size, 0, none⟩ = some (.string ⟨#[]⟩) := by rw [Lib.cell_of_heap hr3]; rfl
    have d1 : w3.cell? ⟨w.heap.size, 1, none⟩ = some (.bool false) := by rw [Lib.cell_of_heap hr3]; rfl
    have d2 : w3.cell? ⟨w.heap.size, 2, none⟩ = some (.slice none 0 0) := by rw [Lib.cell_of_heap hr3]; rfl
    have f0 := Lib.frozen_of_heap hr3 0
    have f1 := Lib.frozen_of_heap hr3 1
    have f2 := Lib.frozen_of_heap hr3 2
    have n1 : ¬ w.heap.size = w1.heap.size := by omega
    have n2 : ¬ w1.heap.size = w.heap.size := by omega
    have hz : w.heap.size ≤ w1.heap.size := Nat.le_of_lt hs1
    clear hh3 hr3 hB3 NM g0 g1 g2 HHW HHR HLW
    have ho := HOE.out
    clear HOE
    generalize nrmA id = nm at *
    cases hok : x.ok with
    | true =>
      rw [hok] at c1 ho
      have ho2 : o = some ⟨nm, true, x.da⟩ := by rw [ho]; simp
      have HOO := Lib.hid ho2
      clear ho ho2 hok
      go_wp2
      refine bodyPost_ret (v := .tuple #[.agg #[.string nm, .bool true, .slice x.D x.n x.c], .bool true]) (by simp [results, Tryd.results8, go_sem, c0, c1, c2, d0, d1, d2, e0, e2, f0, f1, f2, n1, n2]) rfl ?_
      have HF := ((((HB3.out.setCell (p := ⟨w1.heap.size, 0, none⟩) hz (.string nm)).setCell (p := ⟨w.heap.size, 0, none⟩) (Nat.le_refl _) (.string nm)).setCell (p := ⟨w.heap.size, 1, none⟩) (Nat.le_refl _) (.bool true)).setCell (p := ⟨w.heap.size, 2, none⟩) (Nat.le_refl _) (.slice x.D x.n x.c))
      rw [HOO.out]
      exact ⟨⟨nm, true, x.D, x.n, x.c, x.da⟩, rfl, rfl, OK.out, HF⟩
    | false =>
      rw [hok] at c1 ho
      have ho2 : o = some ⟨nm, false, []⟩ := by rw [ho]; simp
      have HOO := Lib.hid ho2
      clear ho ho2 hok
      go_wp2
      refine bodyPost_ret (v := .tuple #[.agg #[.string nm, .bool false, .slice none 0 0], .bool true]) (by simp [results, Tryd.results8, go_sem, c0, c1, c2, d0, d1, d2, e0, e2, f0, f1, f2, n1, n2]) rfl ?_
      rw [HOO.out]
      refine ⟨⟨nm, false, none, 0, 0, []⟩, rfl, rfl, ⟨⟨rfl, fun k hk => absurd hk (by simp)⟩, Nat.le_refl _, by simp⟩, ?_⟩
      exact (((((HB3.out.setCell (p := ⟨w1.heap.size, 0, none⟩) hz _).setCell (p := ⟨w1.heap.size, 2, none⟩) hz _).setCell (p := ⟨w.heap.size, 0, none⟩) (Nat.le_refl _) _).setCell (p := ⟨w.heap.size, 1, none⟩) (Nat.le_refl _) _).setCell (p := ⟨w.heap.size, 2, none⟩) (Nat.le_refl _) _)
end Go.Proofs.YtkpefendeonemaaDoor
