/- The walk of FetchKeeps. Conditions: internal/bytealg.MaxLen holds an int. -/
import Derived.Test.YtkneafpmgbgalaaGreatDoorFetD
namespace Go.Proofs.YtkneafpmgbgalaaGreatDoor
open Go.RowKit Go.Maps Go.Proofs.YtkneafpmgbgalaaGreatDoor.UriPlain
set_option linter.unusedVariables false
set_option linter.unusedSimpArgs false
def FromIds (L : List ByteArray) (tr : List ByteArray) : Prop := ∀ s ∈ tr, ∃ id : ByteArray, id.size ≤ 200 ∧ findB L id.data.toList = true ∧ s = nrmA id
theorem FromIds.get {L : List ByteArray} {ps : List AnP} {mf mb : Int} {st : FS} (h : FromIds L st.tr) (id : ByteArray) (hid : id.size ≤ 200) : FromIds L (getF L ps mf mb st id).1.tr := by
  cases hf : findB L id.data.toList with
  | false => rw [getF_no hf]; exact h
  | true =>
    cases hi : idxT st.tr (nrmA id) with
    | some i => rw [getF_old hf hi]; exact h
    | none =>
      by_cases hm : mf ≤ st.tr.length
      · rw [getF_full hf hi hm]; exact h
      · rw [getF_new hf hi hm]
        intro s hs
        rcases List.mem_append.1 hs with hs | hs
        · exact h s hs
        · simp at hs; exact ⟨id, hid, hf, hs⟩
theorem FromIds.find {L : List ByteArray} {tr : List ByteArray} (h : FromIds L tr) {s : ByteArray} (hs : s ∈ tr) : findB L s.data.toList = true ∧ bS (findT L s.data.toList) = s := by
  obtain ⟨id, hid, hf, rfl⟩ := h s hs
  have hn : errA id = 0 := by
    have hf := hf
    unfold findB at hf
    rw [Bool.and_eq_true] at hf
    exact of_decide_eq_true hf.1
  have hb : (nrmA id).data.toList = normU id.data.toList := by unfold nrmA bS; simp
  have h4 := norm_twice hn (Nat.le_trans hid (by decide))
  have h5 : normU (nrmA id).data.toList = normU id.data.toList := by
    have := congrArg (fun x : ByteArray => x.data.toList) h4.2
    simpa [nrmA, bS] using this
  have h2 : findB L (nrmA id).data.toList = true := by
    unfold findB at hf ⊢
    rw [h5, show uriE (nrmA id).data.toList = 0 from h4.1]
    rw [Bool.and_eq_true] at hf
    rw [hf.2]; rfl
  refine ⟨h2, ?_⟩
  unfold findT
  rw [if_pos h2, h5]
  rfl
theorem FromIds.nil {tr : List ByteArray} (h : FromIds [] tr) : tr = [] := by
  cases tr with
  | nil => rfl
  | cons s t =>
    obtain ⟨id, -, hf, -⟩ := h s (by simp)
    unfold findB at hf
    simp at hf
theorem pw_ne {l : List ByteArray} (h : l.Pairwise (· ≠ ·)) {i j : Nat} {x y : ByteArray} (hij : i < j) (hx : l[i]? = some x) (hy : l[j]? = some y) : x ≠ y := by
  obtain ⟨hi, rfl⟩ := List.getElem?_eq_some_iff.1 hx
  obtain ⟨hj, rfl⟩ := List.getElem?_eq_some_iff.1 hy
  exact List.pairwise_iff_getElem.1 h i j hi hj hij
set_option maxRecDepth 100000 in
set_option maxHeartbeats 8000000 in
theorem fetchKeeps_any (a b mf mb f g0 : Int) (B : Option Addr) (p d : Nat) (L : List ByteArray) (A : Option Addr) (n c : Nat) (l : List An) (I : Option Addr) (q r : Nat) (ids : List ByteArray) (w : World) (m : Int) (hL : TsAt w B p L) (hp : p ≤ 9223372036854775807) (hl : AnsAt w A n l) (hn : n ≤ 9223372036854775807) (hI : TsAt w I q ids) (hq : q ≤ 9223372036854775807) (hm : w.cell? ⟨0, 0, none⟩ = some (.int .i64 m)) :
    Calls Tryz.prog 5 #[cfgV a b mf mb f g0 B p d, .slice A n c, .slice I q r] w (BelB true w) := by
  obtain rfl := hl.1
  obtain ⟨W, hW, hbW, hC⟩ := cfgBox7 w a b mf mb f g0 B p d 24
  have CG := Lib.hid (great24_any a b mf mb f g0 B p d L A l.length c l I q r ids W (hL.below hbW) hp (hl.below hbW) hn (hI.below hbW) hq)
  have CL := Lib.hid (fun V (hb : Below w.heap.size w V) => live24_any V m (max0_below hm hb))
  have HL := Lib.hid hL
  have HA := Lib.hid hl
  have HI := Lib.hid hI
  have HM := Lib.hid hm
  have HBW := Lib.hid hbW
  have HC := Lib.hid hC
  obtain ⟨z0, z1, z2, z3, z4, z5, z6, z7⟩ := hC
  unfold cfgV at CG
  unfold cfgV
  have HL0 := Lib.hid (World.block_lt_of_cell? _ _ hm)
  clear hL hl hI hm hbW
  go_enter Tryz.func5, Tryz.ntmps5
  go_wp2_with fail
  refine CG.out.mono ?_
  clear hW
  rintro e w1 ⟨bg, rfl, hB1, hbg⟩
  have HB1 := Lib.hid (HBW.out.trans (hB1.mono HBW.out.size))
  obtain ⟨HC1⟩ : Nonempty (Hid (CfgAt w.heap.size a b mf mb f g0 B p d w1)) := ⟨Lib.hid (HC.out.below hB1 z0)⟩
  cases bg with
  | true =>
    clear hbg hB1
    go_wp2_with fail
    refine (CL.out _ HB1.out).mono ?_
    rintro e w2 ⟨rfl, hB2⟩
    go_wp2
    go_ret
    exact ⟨rfl, HB1.out.trans (hB2.mono HB1.out.size)⟩
  | false =>
    obtain ⟨q1, q2, q3, q4, q5, q6⟩ := hbg rfl
    have hp80 : p ≤ 80 := by rw [← HL.out.1]; exact q3
    have hS : Shorts L := fun x hx => Nat.le_trans (q4 x hx) (by decide)
    have CC := rcheck24_any a b mf mb f g0 B p d L A l.length c w1 (HL.out.below HB1.out) (by omega) hS
    unfold cfgV at CC
    obtain ⟨ck, hck⟩ : ∃ ck, ck = checkF mf mb L l.length := ⟨_, rfl⟩
    rw [← hck] at CC
    have CC := Lib.hid CC
    have HCK := Lib.hid hck
    have HS := Lib.hid hS
    have Q := Lib.hid (And.intro q1 (And.intro q2 (And.intro q5 q6)))
    clear z0 z1 z2 z3 z4 z5 z6 z7 hbg hB1 q1 q2 q3 q4 q5 q6 hck hS CG
    obtain ⟨z0, z1, z2, z3, z4, z5, z6, z7⟩ := HC1.out
    go_wp2_with fail
    refine CC.out.mono ?_
    rintro e w2 ⟨rfl, hB2⟩
    have HB2 := Lib.hid (HB1.out.trans (hB2.mono HB1.out.size))
    have HC2 := Lib.hid (HC1.out.below hB2 z0)
    clear z0 z1 z2 z3 z4 z5 z6 z7 hB2 CC
    by_cases hck : ck = 0
    · subst hck
      obtain ⟨v1, v2, v3, v4⟩ := check0 HCK.out
      have hx20 : ∀ x ∈ l, x.n ≤ 1048576 := fun x hx => Nat.le_trans (Q.out.2.1 x hx).2 (by decide)
      have hm0 : 0 ≤ mf ∧ mf ≤ 1099511627776 := by unfold limB at v1; simpa using v1
      have hb0 : 0 ≤ mb ∧ mb ≤ 1099511627776 := by unfold limB at v2; simpa using v2
      have HX20 := Lib.hid hx20
      have N1 := new_ok a b mf mb f g0 B p d L A l.length c l w2 m v1 v2 v3 v4 (HL.out.below HB2.out) (by omega) HS.out (HA.out.below HB2.out) hx20 (max0_below HM.out HB2.out)
      unfold cfgV at N1
      have N1 := Lib.hid N1
      obtain ⟨z0, z1, z2, z3, z4, z5, z6, z7⟩ := HC2.out
      have V := Lib.hid (And.intro v1 (And.intro v2 (And.intro v3 v4)))
      have MB := Lib.hid (And.intro hm0 hb0)
      clear v1 v2 v3 v4 hx20 hm0 hb0 HCK
      go_wp2_with fail
      refine N1.out.mono ?_
      rintro e w3 ⟨g, s, T⟩
      obtain rfl := T.ret
      have GO := Lib.hid (GOk.new T MB.out.1.1 MB.out.2.1)
      have HB3 := Lib.hid (HB2.out.trans (T.keep.mono HB2.out.size))
      have HC3 := Lib.hid (HC2.out.below T.keep z0)
      have KEEP3 := Lib.hid T.keep
      clear z0 z1 z2 z3 z4 z5 z6 z7 T N1
      have hg1 : 0 < g := Nat.lt_of_lt_of_le (Nat.lt_of_lt_of_le HL0.out HB2.out.size) GO.out.guard.gbase
      obtain ⟨P1, hP1⟩ : ∃ P1, P1 = putA (l.map An.pl) := ⟨_, rfl⟩
      rw [← hP1] at GO
      have hsm : ∀ a ∈ l.map An.pl, a.id.size ≤ 4000 ∧ a.da.length ≤ 1048576 := by
        intro a ha
        obtain ⟨x, hx, rfl⟩ := List.mem_map.1 ha
        have h1 := (HA.out.ok x hx).1.1
        exact ⟨Nat.le_trans (Q.out.2.1 x hx).1 (by decide), by show x.da.length ≤ _; rw [h1]; exact HX20.out x hx⟩
      have D1 : Hid (P1.length ≤ 1048576 ∧ ∀ a ∈ P1, a.da.length ≤ 1048576) := Lib.hid (by
        rw [hP1]
        refine ⟨Nat.le_trans (putA_len _) (by rw [List.length_map]; have := V.out.2.2.2; omega), fun a ha => ?_⟩
        rcases putA_daF _ a ha with h | ⟨x, hx, h⟩
        · rw [h]; exact Nat.zero_le _
        · rw [h]; exact (hsm x hx).2)
      have hlp : L.length ≤ 1048576 := by rw [HL.out.1]; omega
      have hb2 : 0 < w2.heap.size := Nat.lt_of_lt_of_le HL0.out HB2.out.size
      clear hsm hP1
      go_wp2
      go_loopw [9] (fun v9 wr => ∃ (k : Nat) (st : FS) (s1 : GM), k ≤ q ∧ v9 = .int .i64 k ∧ Hid (GOk wr w2.heap.size g L P1 mf mb st s1) ∧ Hid (st.tr.length ≤ k) ∧ Hid (FromIds L st.tr) ∧ Hid (Below w2.heap.size w2 wr)) (fun v9 _ => q - (intOf v9).toNat)
      case atStart => exact ⟨0, fs0, s, Nat.zero_le _, rfl, GO, Lib.hid (Nat.le_refl _), Lib.hid (by intro y hy; simp [fs0] at hy), KEEP3⟩
      case round =>
        obtain ⟨k, st, s1, hk, rfl, HG, HTR, HF, HB⟩ := hrel
        have HBW1 := Lib.hid (HB2.out.trans (HB.out.mono HB2.out.size))
        by_cases hlt : k < q
        · obtain ⟨a1, x, rfl, hx, hxb, g1⟩ := HI.out.2 k hlt
          have b0 : (0 : Int) ≤ (k : Int) := by omega
          have b1 : (k : Int) < (q : Int) := by omega
          have hxs : x.size ≤ 200 := Q.out.2.2.2 x (List.mem_of_getElem? hx)
          have hq30 := Q.out.2.2.1
          have hiq := HI.out.1
          have htl := HTR.out
          have C1 := Lib.hid (get_step w2.heap.size g L P1 mf mb st s1 x wr m HG.out (max0_below HM.out HBW1.out) hb2 hlp HS.out D1.out.1 D1.out.2 (by omega) MB.out.2.2)
          have gx := (HBW1.out.cell (p := a1.add k) (by rw [addBlockT]; exact hxb)).trans g1
          have STN : Hid ((getF L P1 mf mb st x).1.tr.length ≤ k + 1) := Lib.hid (Nat.le_trans (getF_tr L P1 mf mb st x) (by omega))
          have HFN := Lib.hid (HF.out.get (ps := P1) (mf := mf) (mb := mb) x hxs)
          clear hx
          go_wp2_with fail
          refine C1.out.mono ?_
          rintro e w6 ⟨s1', R1, n1, c1, T1⟩
          obtain rfl := T1.ret
          have HG6 := Lib.hid T1.ok
          have HB6 := Lib.hid (HB.out.trans (T1.keep.below HB.out.size (fun j hj => may_base HG.out.guard hj)))
          generalize getF L P1 mf mb st x = gf at *
          obtain ⟨st', da, er⟩ := gf
          clear T1 C1 gx HG HB HF
          go_wp2
          go_roundw
          case rel => exact ⟨k + 1, st', s1', by omega, by go_num, HG6, STN, HFN, HB6⟩
          case measure => simp [intOf]; omega
        · obtain rfl : k = q := by omega
          have b1 : ¬ (k : Int) < (k : Int) := by omega
          have hq30 := Q.out.2.2.1
          have hiq := HI.out.1
          have htl := HTR.out
          have e1 : s1.ts = st.tr := congrArg FS.tr HG.out.hst
          have e3 : s1.rd = st.rd := congrArg FS.rd HG.out.hst
          obtain ⟨lfv, e5⟩ : ∃ lfv, s1.lf = lfv := ⟨_, rfl⟩
          have e6 : lfv + st.rd = mb := by rw [← e5, ← e3]; exact HG.out.sum
          have E1 := trace_any w2.heap.size g s1 wr HG.out.guard hb2 (by rw [e1]; omega)
          have E3 := Lib.hid (fun V hb => read_any w2.heap.size g s1 V (HG.out.below hb).guard hb2)
          have E4 := Lib.hid (fun V hb => left_any w2.heap.size g s1 V (HG.out.below hb).guard hb2)
          rw [e1] at E1
          rw [e3] at E3
          rw [e5] at E4
          have E1 := Lib.hid E1
          have OK := Lib.hid HG.out.ok
          obtain ⟨o1, o2, o3, o4, o5, -, -⟩ := OK.out
          have HDI := Lib.hid o5
          generalize st.rd = rdv at *
          generalize st.tr = tr at *
          clear e1 e3 e5 HG HTR OK o1 o5
          go_wp2_with fail
          refine E1.out.mono ?_
          rintro e w8 ⟨A8, c8, rfl, hown8, hB8⟩
          have HB8 := Lib.hid hB8
          have HT8 := Lib.hid (TsAt.of_own hown8)
          have HBW8 := Lib.hid (HBW1.out.trans (hB8.mono HBW1.out.size))
          have HC8 := Lib.hid (HC2.out.below (HB.out.trans (hB8.mono HB.out.size)) HC2.out.1)
          clear hown8 hB8 E1
          go_wp2
          go_loopw [11, 12, 13, 14] (fun v11 v12 v13 v14 wx => ∃ i : Nat, i ≤ tr.length ∧ v11 = .int .i64 i ∧ Hid (Below w8.heap.size w8 wx)) (fun v11 _ _ _ _ => tr.length - (intOf v11).toNat)
          case atStart => exact ⟨0, Nat.zero_le _, rfl, Lib.hid (Below.refl _ _)⟩
          case round =>
            obtain ⟨i, hi, rfl, HBX⟩ := hrel
            have HCX := Lib.hid (HC8.out.below HBX.out HC8.out.1)
            have HBWX := Lib.hid (HBW8.out.trans (HBX.out.mono HBW8.out.size))
            by_cases hlti : i < tr.length
            · obtain ⟨a1, x, rfl, hx, -, gx⟩ := (HT8.out.below HBX.out).2 i hlti
              have b0 : (0 : Int) ≤ (i : Int) := by omega
              have b2 : (i : Int) < (tr.length : Int) := by omega
              obtain ⟨f1, f2⟩ := HF.out.find (List.mem_of_getElem? hx)
              have FC := rfind22_any B p d L x wr.drew (HL.out.below (HBWX.out.trans (below_drewF _ _))) (by omega) HS.out
              rw [f1, f2] at FC
              have FC := Lib.hid FC
              have HX := Lib.hid hx
              have hcc := HCX.out.2.2.2.2.2.2.2
              clear hx f1 f2
              go_wp2_with fail
              go_region_held3 (fun w' => w'.cell? ⟨w.heap.size, 6, none⟩ = some (.slice B p d) ∧ w'.cell? (a1.add i) = some (.string x))
                (exact ⟨hcc, gx⟩)
                (first
                | (go_at_call 17
                   refine FC.out.mono ?_
                   rintro e w9 ⟨rfl, hB9⟩
                   have HB9 := Lib.hid (HBX.out.trans (((below_drewF wr.heap.size wr).trans hB9).mono HBX.out.size))
                   have HC9 := Lib.hid (HC8.out.below HB9.out HC8.out.1)
                   have hcc := HC9.out.2.2.2.2.2.2.2
                   have gx := (((below_drewF wr.heap.size wr).trans hB9).cell (p := a1.add i) (World.block_lt_of_cell? _ _ gx)).trans gx
                   clear hB9))
              clear hcc
              go_wp2
              go_loopw [14] (fun v14 wy => ∃ j : Nat, j ≤ i ∧ v14 = .int .i64 j ∧ Hid (Below w8.heap.size w8 wy)) (fun v14 _ => i - (intOf v14).toNat)
              case atStart => exact ⟨0, Nat.zero_le _, rfl, HB9⟩
              case round =>
                obtain ⟨j, hj, rfl, HBY⟩ := hrel
                by_cases hltj : j < i
                · obtain ⟨a2, y, e2, hy, -, gy⟩ := (HT8.out.below HBY.out).2 j (by omega)
                  obtain ⟨a3, x', e3, hx', -, gx'⟩ := (HT8.out.below HBY.out).2 i hlti
                  injection e2 with e2
                  injection e3 with e3
                  subst e2 e3
                  have hxx : x = x' := by have h := HX.out.symm.trans hx'; injection h
                  subst hxx
                  have hne := toL_noA (pw_ne HDI.out hltj hy HX.out)
                  have d0 : (0 : Int) ≤ (j : Int) := by omega
                  have d1 : (j : Int) < (i : Int) := by omega
                  have d2 : (j : Int) < (tr.length : Int) := by omega
                  clear hy hx'
                  go_wp2
                  go_quiet (fail)
                  go_wp2
                  go_roundw
                  case rel => exact ⟨j + 1, by omega, by go_num, Lib.hid (HBY.out.trans (below_drawnF _ _ _))⟩
                  case measure => simp [intOf]; omega
                · obtain rfl : j = i := by omega
                  have d1 : ¬ (j : Int) < (j : Int) := by omega
                  go_wp2
                  go_roundw
                  case rel => exact ⟨j + 1, by omega, by go_num, HBY⟩
                  case measure => simp [intOf]; omega
            · obtain rfl : i = tr.length := by omega
              have b2 : ¬ (tr.length : Int) < (tr.length : Int) := by omega
              have HBR := Lib.hid (HB8.out.trans ((HBX.out.trans (below_drewF _ wr)).mono HB8.out.size))
              have HLV := Lib.hid (HBWX.out.trans (below_drewF _ wr))
              have k1 := o4
              have k2 := o3
              have k3 := o2
              have k4 := MB.out.2.2
              have k0 : 0 ≤ lfv := by omega
              have e7 : rdv + lfv = mb := by omega
              have e8 : IntKind.i64.wrap mb = mb := IntWalk.i64_in _ (by omega)
              clear e6
              have hcc : wr.drew.cell? ⟨w.heap.size, 4, none⟩ = some (.int .i64 mf) ∧ wr.drew.cell? ⟨w.heap.size, 5, none⟩ = some (.int .i64 mb) ∧ wr.drew.cell? ⟨w.heap.size, 6, none⟩ = some (.slice B p d) := HCX.out.2.2.2.2.2
              go_wp2_with fail
              refine (get_nil _ wr).mono ?_
              rintro e w9 ⟨rfl, rfl⟩
              go_wp2_with fail
              refine (trace_nil wr).mono ?_
              rintro e w9 ⟨rfl, rfl⟩
              go_wp2_with fail
              refine (read_nil wr).mono ?_
              rintro e w9 ⟨rfl, rfl⟩
              go_wp2_with fail
              refine (left_nil wr).mono ?_
              rintro e w9 ⟨rfl, rfl⟩
              have HLIVE := Lib.hid (CL.out wr.drew HLV.out)
              have hp1 : p = 0 → tr = [] := fun h0 => by
                have h1 : L = [] := List.eq_nil_of_length_eq_zero (HL.out.1.trans h0)
                have h2 := HF.out
                rw [h1] at h2
                exact h2.nil
              clear HB8 HF HDI HT8 HBX HC8 HBW8 HBWX
              by_cases h0 : p = 0
              · have ht0 := hp1 h0
                subst h0 ht0
                have k1 : (0 : Int) ≤ mf := MB.out.1.1
                clear hp1
                go_wp2_with fail
                go_region_held3 (fun w' => w'.cell? ⟨w.heap.size, 4, none⟩ = some (.int .i64 mf) ∧ w'.cell? ⟨w.heap.size, 5, none⟩ = some (.int .i64 mb) ∧ w'.cell? ⟨w.heap.size, 6, none⟩ = some (.slice B 0 d))
                  (exact hcc)
                  (first
                  | (go_at_call 14
                     refine (E3.out _ HBR.out).mono ?_
                     rintro e w9 ⟨rfl, rfl⟩)
                  | (go_at_call 16
                     refine (E4.out _ HBR.out).mono ?_
                     rintro e w9 ⟨rfl, rfl⟩)
                  | (go_at_call 8
                     refine HLIVE.out.mono ?_
                     rintro e w9 ⟨rfl, hB9⟩
                     have HB9 := Lib.hid (HLV.out.trans (hB9.mono HLV.out.size))
                     have hcc := (HCX.out.below ((below_drewF wr.heap.size wr).trans hB9) HCX.out.1).2.2.2.2.2
                     clear hB9))
                go_wp2
                go_ret
                exact ⟨rfl, HB9.out⟩
              · have b3 : (0 : Int) < (p : Int) := by omega
                have b4 : 0 < p := by omega
                clear hp1
                go_wp2_with fail
                refine wp_region_held_drew (S := fun w' => w'.cell? ⟨w.heap.size, 4, none⟩ = some (.int .i64 mf) ∧ w'.cell? ⟨w.heap.size, 5, none⟩ = some (.int .i64 mb) ∧ w'.cell? ⟨w.heap.size, 6, none⟩ = some (.slice B p d)) (by kernel_rfl) hcc (fun hHeld => ?_)
                (try simp only [Act.put, List.setIfInBounds_toArray, List.set_cons_zero, List.set_cons_succ])
                --TAKES narthex/narthexlaw24.FetchKeeps:26 0..6 8 9
                refine wpAnyH_take (i := 0) (oi := ({ dst := some 110, op := Op.move (Operand.tmp 10), type := 22, pos := "law.go:85", after := #[], guard := none } : Oper)) (v := ?_) rfl (by kernel_rfl) (by kernel_rfl) (by kernel_rfl) (fun _ _ _ h => h) (Or.inl ⟨by rfl, ?_⟩) (by assumption) ?_
                rotate_left 1
                · intro w hSw; (try dsimp only at hSw); go_simp; try with_reducible rfl
                (try simp only [Act.put, List.setIfInBounds_toArray, List.set_cons_zero, List.set_cons_succ])
                refine wpAnyH_take (i := 1) (oi := ({ dst := some 111, op := Op.call { callee := Callee.builtin Builtin.len, args := #[Operand.tmp 110], argTypes := #[22] }, type := 3, pos := "law.go:85", after := #[{ on := 0, ground := Ground.data }], guard := none } : Oper)) (v := ?_) rfl (by kernel_rfl) (by kernel_rfl) (by kernel_rfl) (fun _ _ _ h => h) (Or.inl ⟨by rfl, ?_⟩) (by assumption) ?_
                rotate_left 1
                · intro w hSw; (try dsimp only at hSw); go_simp; try with_reducible rfl
                (try simp only [Act.put, List.setIfInBounds_toArray, List.set_cons_zero, List.set_cons_succ])
                refine wpAnyH_take (i := 2) (oi := ({ dst := some 112, op := Op.fieldAddr 24 (Operand.tmp 3) 4, type := 0, pos := "law.go:85", after := #[], guard := none } : Oper)) (v := ?_) rfl (by kernel_rfl) (by kernel_rfl) (by kernel_rfl) (fun _ _ _ h => h) (Or.inl ⟨by rfl, ?_⟩) (by assumption) ?_
                rotate_left 1
                · intro w hSw; (try dsimp only at hSw); go_simp; try with_reducible rfl
                (try simp only [Act.put, List.setIfInBounds_toArray, List.set_cons_zero, List.set_cons_succ])
                refine wpAnyH_take (i := 3) (oi := ({ dst := some 113, op := Op.load 3 (Operand.tmp 112), type := 3, pos := "law.go:85", after := #[{ on := 2, ground := Ground.data }], guard := none } : Oper)) (v := ?_) rfl (by kernel_rfl) (by kernel_rfl) (by kernel_rfl) (fun _ _ _ h => h) (Or.inl ⟨by rfl, ?_⟩) (by assumption) ?_
                rotate_left 1
                · intro w hSw; (try dsimp only at hSw); go_simp; try with_reducible rfl
                (try simp only [Act.put, List.setIfInBounds_toArray, List.set_cons_zero, List.set_cons_succ])
                refine wpAnyH_take (i := 4) (oi := ({ dst := some 114, op := Op.binOp BinOp.leq 3 (Operand.tmp 111) (Operand.tmp 113) 3, type := 4, pos := "law.go:85", after := #[{ on := 1, ground := Ground.data }, { on := 3, ground := Ground.data }], guard := none } : Oper)) (v := ?_) rfl (by kernel_rfl) (by kernel_rfl) (by kernel_rfl) (fun _ _ _ h => h) (Or.inl ⟨by rfl, ?_⟩) (by assumption) ?_
                rotate_left 1
                · intro w hSw; (try dsimp only at hSw); go_simp; try with_reducible rfl
                (try simp only [Act.put, List.setIfInBounds_toArray, List.set_cons_zero, List.set_cons_succ])
                refine wpAnyH_take (i := 5) (oi := ({ dst := some 115, op := Op.move (Operand.tmp 114), type := 4, pos := "law.go:85", after := #[{ on := 4, ground := Ground.data }], guard := none } : Oper)) (v := ?_) rfl (by kernel_rfl) (by kernel_rfl) (by kernel_rfl) (fun _ _ _ h => h) (Or.inl ⟨by rfl, ?_⟩) (by assumption) ?_
                rotate_left 1
                · intro w hSw; (try dsimp only at hSw); go_simp; try with_reducible rfl
                (try simp only [Act.put, List.setIfInBounds_toArray, List.set_cons_zero, List.set_cons_succ])
                refine wpAnyH_take (i := 6) (oi := ({ dst := some 116, op := Op.move (Operand.tmp 7), type := 29, pos := "law.go:85", after := #[{ on := 5, ground := Ground.guard }], guard := some (5, true) } : Oper)) (v := ?_) rfl (by kernel_rfl) (by kernel_rfl) (by kernel_rfl) (fun _ _ _ h => h) (Or.inl ⟨by rfl, ?_⟩) (by assumption) ?_
                rotate_left 1
                · intro w hSw; (try dsimp only at hSw); go_simp; try with_reducible rfl
                (try simp only [Act.put, List.setIfInBounds_toArray, List.set_cons_zero, List.set_cons_succ])
                refine wpAnyH_take (i := 8) (oi := ({ dst := some 118, op := Op.fieldAddr 24 (Operand.tmp 3) 5, type := 0, pos := "law.go:85", after := #[{ on := 5, ground := Ground.guard }], guard := some (5, true) } : Oper)) (v := ?_) rfl (by kernel_rfl) (by kernel_rfl) (by kernel_rfl) (fun _ _ _ h => h) (Or.inl ⟨by rfl, ?_⟩) (by assumption) ?_
                rotate_left 1
                · intro w hSw; (try dsimp only at hSw); go_simp; try with_reducible rfl
                (try simp only [Act.put, List.setIfInBounds_toArray, List.set_cons_zero, List.set_cons_succ])
                refine wpAnyH_take (i := 9) (oi := ({ dst := some 119, op := Op.load 3 (Operand.tmp 118), type := 3, pos := "law.go:85", after := #[{ on := 8, ground := Ground.data }, { on := 5, ground := Ground.guard }], guard := some (5, true) } : Oper)) (v := ?_) rfl (by kernel_rfl) (by kernel_rfl) (by kernel_rfl) (fun _ _ _ h => h) (Or.inl ⟨by rfl, ?_⟩) (by assumption) ?_
                rotate_left 1
                · intro w hSw; (try dsimp only at hSw); go_simp; try with_reducible rfl
                (try simp only [Act.put, List.setIfInBounds_toArray, List.set_cons_zero, List.set_cons_succ])
                --END
                refine wpAnyH_ready (rs := [7]) (by kernel_rfl) (by simp) ?_
                refine AllReadyH.cons (o := _) rfl (fun K hK => ?_) AllReadyH.nil
                go_simp
                refine (E3.out _ HBR.out).mono ?_
                rintro e w9 ⟨rfl, rfl⟩
                refine hK.out _ _ hHeld (fun _ => ?_)
                clear hK K
                (try simp only [Act.put, List.setIfInBounds_toArray, List.set_cons_zero, List.set_cons_succ])
                --TAKES narthex/narthexlaw24.FetchKeeps:26 10..13 15 18 19
                refine wpAnyH_take (i := 10) (oi := ({ dst := some 120, op := Op.binOp BinOp.leq 3 (Operand.tmp 117) (Operand.tmp 119) 3, type := 4, pos := "law.go:85", after := #[{ on := 7, ground := Ground.data }, { on := 9, ground := Ground.data }, { on := 5, ground := Ground.guard }], guard := some (5, true) } : Oper)) (v := ?_) rfl (by kernel_rfl) (by kernel_rfl) (by kernel_rfl) (fun _ _ _ h => h) (Or.inl ⟨by rfl, ?_⟩) (by assumption) ?_
                rotate_left 1
                · intro w hSw; (try dsimp only at hSw); go_simp; try with_reducible rfl
                (try simp only [Act.put, List.setIfInBounds_toArray, List.set_cons_zero, List.set_cons_succ])
                refine wpAnyH_take (i := 11) (oi := ({ dst := some 121, op := Op.pick (Operand.tmp 115) (Operand.tmp 120) (Operand.const (Value.bool false)), type := 4, pos := "law.go:85", after := #[{ on := 5, ground := Ground.data }, { on := 10, ground := Ground.data }], guard := none } : Oper)) (v := ?_) rfl (by kernel_rfl) (by kernel_rfl) (by kernel_rfl) (fun _ _ _ h => h) (Or.inl ⟨by rfl, ?_⟩) (by assumption) ?_
                rotate_left 1
                · intro w hSw; (try dsimp only at hSw); go_simp; try with_reducible rfl
                (try simp only [Act.put, List.setIfInBounds_toArray, List.set_cons_zero, List.set_cons_succ])
                refine wpAnyH_take (i := 12) (oi := ({ dst := some 122, op := Op.move (Operand.tmp 121), type := 4, pos := "law.go:85", after := #[{ on := 11, ground := Ground.data }, { on := 7, ground := Ground.chain }], guard := none } : Oper)) (v := ?_) rfl (by kernel_rfl) (by kernel_rfl) (by kernel_rfl) (fun _ _ _ h => h) (Or.inl ⟨by rfl, ?_⟩) (by assumption) ?_
                rotate_left 1
                · intro w hSw; (try dsimp only at hSw); go_simp; try with_reducible rfl
                (try simp only [Act.put, List.setIfInBounds_toArray, List.set_cons_zero, List.set_cons_succ])
                refine wpAnyH_take (i := 13) (oi := ({ dst := some 123, op := Op.move (Operand.tmp 7), type := 29, pos := "law.go:85", after := #[{ on := 12, ground := Ground.guard }], guard := some (12, true) } : Oper)) (v := ?_) rfl (by kernel_rfl) (by kernel_rfl) (by kernel_rfl) (fun _ _ _ h => h) (Or.inl ⟨by rfl, ?_⟩) (by assumption) ?_
                rotate_left 1
                · intro w hSw; (try dsimp only at hSw); go_simp; try with_reducible rfl
                (try simp only [Act.put, List.setIfInBounds_toArray, List.set_cons_zero, List.set_cons_succ])
                refine wpAnyH_take (i := 15) (oi := ({ dst := some 125, op := Op.move (Operand.tmp 7), type := 29, pos := "law.go:85", after := #[{ on := 12, ground := Ground.guard }], guard := some (12, true) } : Oper)) (v := ?_) rfl (by kernel_rfl) (by kernel_rfl) (by kernel_rfl) (fun _ _ _ h => h) (Or.inl ⟨by rfl, ?_⟩) (by assumption) ?_
                rotate_left 1
                · intro w hSw; (try dsimp only at hSw); go_simp; try with_reducible rfl
                (try simp only [Act.put, List.setIfInBounds_toArray, List.set_cons_zero, List.set_cons_succ])
                refine wpAnyH_take (i := 18) (oi := ({ dst := some 128, op := Op.fieldAddr 24 (Operand.tmp 3) 5, type := 0, pos := "law.go:85", after := #[{ on := 12, ground := Ground.guard }], guard := some (12, true) } : Oper)) (v := ?_) rfl (by kernel_rfl) (by kernel_rfl) (by kernel_rfl) (fun _ _ _ h => h) (Or.inl ⟨by rfl, ?_⟩) (by assumption) ?_
                rotate_left 1
                · intro w hSw; (try dsimp only at hSw); go_simp; try with_reducible rfl
                (try simp only [Act.put, List.setIfInBounds_toArray, List.set_cons_zero, List.set_cons_succ])
                refine wpAnyH_take (i := 19) (oi := ({ dst := some 129, op := Op.load 3 (Operand.tmp 128), type := 3, pos := "law.go:85", after := #[{ on := 18, ground := Ground.data }, { on := 12, ground := Ground.guard }], guard := some (12, true) } : Oper)) (v := ?_) rfl (by kernel_rfl) (by kernel_rfl) (by kernel_rfl) (fun _ _ _ h => h) (Or.inl ⟨by rfl, ?_⟩) (by assumption) ?_
                rotate_left 1
                · intro w hSw; (try dsimp only at hSw); go_simp; try with_reducible rfl
                (try simp only [Act.put, List.setIfInBounds_toArray, List.set_cons_zero, List.set_cons_succ])
                --END
                refine wpAnyH_ready (rs := [14]) (by kernel_rfl) (by simp) ?_
                refine AllReadyH.cons (o := _) rfl (fun K hK => ?_) AllReadyH.nil
                go_simp
                refine (E3.out _ HBR.out).mono ?_
                rintro e w9 ⟨rfl, rfl⟩
                refine hK.out _ _ hHeld (fun _ => ?_)
                clear hK K
                (try simp only [Act.put, List.setIfInBounds_toArray, List.set_cons_zero, List.set_cons_succ])
                refine wpAnyH_ready (rs := [16]) (by kernel_rfl) (by simp) ?_
                refine AllReadyH.cons (o := _) rfl (fun K hK => ?_) AllReadyH.nil
                go_simp
                refine (E4.out _ HBR.out).mono ?_
                rintro e w9 ⟨rfl, rfl⟩
                refine hK.out _ _ hHeld (fun _ => ?_)
                clear hK K
                (try simp only [Act.put, List.setIfInBounds_toArray, List.set_cons_zero, List.set_cons_succ])
                --TAKES narthex/narthexlaw24.FetchKeeps:26 17 20..27 -28..30 31..33
                refine wpAnyH_take (i := 17) (oi := ({ dst := some 127, op := Op.binOp BinOp.add 3 (Operand.tmp 124) (Operand.tmp 126) 3, type := 3, pos := "law.go:85", after := #[{ on := 14, ground := Ground.data }, { on := 16, ground := Ground.data }, { on := 12, ground := Ground.guard }], guard := some (12, true) } : Oper)) (v := ?_) rfl (by kernel_rfl) (by kernel_rfl) (by kernel_rfl) (fun _ _ _ h => h) (Or.inl ⟨by rfl, ?_⟩) (by assumption) ?_
                rotate_left 1
                · intro w hSw; (try dsimp only at hSw); go_simp; try with_reducible rfl
                (try simp only [Act.put, List.setIfInBounds_toArray, List.set_cons_zero, List.set_cons_succ])
                refine wpAnyH_take (i := 20) (oi := ({ dst := some 130, op := Op.binOp BinOp.eql 3 (Operand.tmp 127) (Operand.tmp 129) 3, type := 4, pos := "law.go:85", after := #[{ on := 17, ground := Ground.data }, { on := 19, ground := Ground.data }, { on := 12, ground := Ground.guard }], guard := some (12, true) } : Oper)) (v := ?_) rfl (by kernel_rfl) (by kernel_rfl) (by kernel_rfl) (fun _ _ _ h => h) (Or.inl ⟨by rfl, ?_⟩) (by assumption) ?_
                rotate_left 1
                · intro w hSw; (try dsimp only at hSw); go_simp; try with_reducible rfl
                (try simp only [Act.put, List.setIfInBounds_toArray, List.set_cons_zero, List.set_cons_succ])
                refine wpAnyH_take (i := 21) (oi := ({ dst := some 131, op := Op.pick (Operand.tmp 122) (Operand.tmp 130) (Operand.const (Value.bool false)), type := 4, pos := "law.go:85", after := #[{ on := 12, ground := Ground.data }, { on := 20, ground := Ground.data }], guard := none } : Oper)) (v := ?_) rfl (by kernel_rfl) (by kernel_rfl) (by kernel_rfl) (fun _ _ _ h => h) (Or.inl ⟨by rfl, ?_⟩) (by assumption) ?_
                rotate_left 1
                · intro w hSw; (try dsimp only at hSw); go_simp; try with_reducible rfl
                (try simp only [Act.put, List.setIfInBounds_toArray, List.set_cons_zero, List.set_cons_succ])
                refine wpAnyH_take (i := 22) (oi := ({ dst := some 132, op := Op.move (Operand.tmp 131), type := 4, pos := "law.go:85", after := #[{ on := 21, ground := Ground.data }, { on := 16, ground := Ground.chain }], guard := none } : Oper)) (v := ?_) rfl (by kernel_rfl) (by kernel_rfl) (by kernel_rfl) (fun _ _ _ h => h) (Or.inl ⟨by rfl, ?_⟩) (by assumption) ?_
                rotate_left 1
                · intro w hSw; (try dsimp only at hSw); go_simp; try with_reducible rfl
                (try simp only [Act.put, List.setIfInBounds_toArray, List.set_cons_zero, List.set_cons_succ])
                refine wpAnyH_take (i := 23) (oi := ({ dst := some 133, op := Op.fieldAddr 24 (Operand.tmp 3) 6, type := 0, pos := "law.go:85", after := #[{ on := 22, ground := Ground.guard }], guard := some (22, true) } : Oper)) (v := ?_) rfl (by kernel_rfl) (by kernel_rfl) (by kernel_rfl) (fun _ _ _ h => h) (Or.inl ⟨by rfl, ?_⟩) (by assumption) ?_
                rotate_left 1
                · intro w hSw; (try dsimp only at hSw); go_simp; try with_reducible rfl
                (try simp only [Act.put, List.setIfInBounds_toArray, List.set_cons_zero, List.set_cons_succ])
                refine wpAnyH_take (i := 24) (oi := ({ dst := some 134, op := Op.load 22 (Operand.tmp 133), type := 22, pos := "law.go:85", after := #[{ on := 23, ground := Ground.data }, { on := 22, ground := Ground.guard }], guard := some (22, true) } : Oper)) (v := ?_) rfl (by kernel_rfl) (by kernel_rfl) (by kernel_rfl) (fun _ _ _ h => h) (Or.inl ⟨by rfl, ?_⟩) (by assumption) ?_
                rotate_left 1
                · intro w hSw; (try dsimp only at hSw); go_simp; try with_reducible rfl
                (try simp only [Act.put, List.setIfInBounds_toArray, List.set_cons_zero, List.set_cons_succ])
                refine wpAnyH_take (i := 25) (oi := ({ dst := some 135, op := Op.call { callee := Callee.builtin Builtin.len, args := #[Operand.tmp 134], argTypes := #[22] }, type := 3, pos := "law.go:85", after := #[{ on := 24, ground := Ground.data }, { on := 22, ground := Ground.guard }], guard := some (22, true) } : Oper)) (v := ?_) rfl (by kernel_rfl) (by kernel_rfl) (by kernel_rfl) (fun _ _ _ h => h) (Or.inl ⟨by rfl, ?_⟩) (by assumption) ?_
                rotate_left 1
                · intro w hSw; (try dsimp only at hSw); go_simp; try with_reducible rfl
                (try simp only [Act.put, List.setIfInBounds_toArray, List.set_cons_zero, List.set_cons_succ])
                refine wpAnyH_take (i := 26) (oi := ({ dst := some 136, op := Op.binOp BinOp.gtr 3 (Operand.tmp 135) (Operand.const (Value.int IntKind.i64 0)) 3, type := 4, pos := "law.go:85", after := #[{ on := 25, ground := Ground.data }, { on := 22, ground := Ground.guard }], guard := some (22, true) } : Oper)) (v := ?_) rfl (by kernel_rfl) (by kernel_rfl) (by kernel_rfl) (fun _ _ _ h => h) (Or.inl ⟨by rfl, ?_⟩) (by assumption) ?_
                rotate_left 1
                · intro w hSw; (try dsimp only at hSw); go_simp; try with_reducible rfl
                (try simp only [Act.put, List.setIfInBounds_toArray, List.set_cons_zero, List.set_cons_succ])
                refine wpAnyH_take (i := 27) (oi := ({ dst := some 137, op := Op.move (Operand.tmp 136), type := 4, pos := "law.go:85", after := #[{ on := 26, ground := Ground.data }, { on := 22, ground := Ground.chain }, { on := 22, ground := Ground.guard }], guard := some (22, true) } : Oper)) (v := ?_) rfl (by kernel_rfl) (by kernel_rfl) (by kernel_rfl) (fun _ _ _ h => h) (Or.inl ⟨by rfl, ?_⟩) (by assumption) ?_
                rotate_left 1
                · intro w hSw; (try dsimp only at hSw); go_simp; try with_reducible rfl
                (try simp only [Act.put, List.setIfInBounds_toArray, List.set_cons_zero, List.set_cons_succ])
                refine wpAnyH_take (i := 28) (oi := ({ dst := some 138, op := Op.move (Operand.tmp 10), type := 22, pos := "law.go:85", after := #[{ on := 27, ground := Ground.guard }], guard := some (27, false) } : Oper)) (v := undef) rfl (by kernel_rfl) (by kernel_rfl) (by kernel_rfl) (fun _ _ _ h => h) (Or.inr ⟨by rfl, rfl⟩) (by assumption) ?_
                (try simp only [Act.put, List.setIfInBounds_toArray, List.set_cons_zero, List.set_cons_succ])
                refine wpAnyH_take (i := 29) (oi := ({ dst := some 139, op := Op.call { callee := Callee.builtin Builtin.len, args := #[Operand.tmp 138], argTypes := #[22] }, type := 3, pos := "law.go:85", after := #[{ on := 28, ground := Ground.data }, { on := 27, ground := Ground.guard }], guard := some (27, false) } : Oper)) (v := undef) rfl (by kernel_rfl) (by kernel_rfl) (by kernel_rfl) (fun _ _ _ h => h) (Or.inr ⟨by rfl, rfl⟩) (by assumption) ?_
                (try simp only [Act.put, List.setIfInBounds_toArray, List.set_cons_zero, List.set_cons_succ])
                refine wpAnyH_take (i := 30) (oi := ({ dst := some 140, op := Op.binOp BinOp.eql 3 (Operand.tmp 139) (Operand.const (Value.int IntKind.i64 0)) 3, type := 4, pos := "law.go:85", after := #[{ on := 29, ground := Ground.data }, { on := 27, ground := Ground.guard }], guard := some (27, false) } : Oper)) (v := undef) rfl (by kernel_rfl) (by kernel_rfl) (by kernel_rfl) (fun _ _ _ h => h) (Or.inr ⟨by rfl, rfl⟩) (by assumption) ?_
                (try simp only [Act.put, List.setIfInBounds_toArray, List.set_cons_zero, List.set_cons_succ])
                refine wpAnyH_take (i := 31) (oi := ({ dst := some 141, op := Op.pick (Operand.tmp 137) (Operand.const (Value.bool true)) (Operand.tmp 140), type := 4, pos := "law.go:85", after := #[{ on := 27, ground := Ground.data }, { on := 30, ground := Ground.data }, { on := 22, ground := Ground.guard }], guard := some (22, true) } : Oper)) (v := ?_) rfl (by kernel_rfl) (by kernel_rfl) (by kernel_rfl) (fun _ _ _ h => h) (Or.inl ⟨by rfl, ?_⟩) (by assumption) ?_
                rotate_left 1
                · intro w hSw; (try dsimp only at hSw); go_simp; try with_reducible rfl
                (try simp only [Act.put, List.setIfInBounds_toArray, List.set_cons_zero, List.set_cons_succ])
                refine wpAnyH_take (i := 32) (oi := ({ dst := some 142, op := Op.pick (Operand.tmp 132) (Operand.tmp 141) (Operand.const (Value.bool false)), type := 4, pos := "law.go:85", after := #[{ on := 22, ground := Ground.data }, { on := 31, ground := Ground.data }], guard := none } : Oper)) (v := ?_) rfl (by kernel_rfl) (by kernel_rfl) (by kernel_rfl) (fun _ _ _ h => h) (Or.inl ⟨by rfl, ?_⟩) (by assumption) ?_
                rotate_left 1
                · intro w hSw; (try dsimp only at hSw); go_simp; try with_reducible rfl
                (try simp only [Act.put, List.setIfInBounds_toArray, List.set_cons_zero, List.set_cons_succ])
                refine wpAnyH_take (i := 33) (oi := ({ dst := some 143, op := Op.move (Operand.tmp 142), type := 4, pos := "law.go:85", after := #[{ on := 32, ground := Ground.data }, { on := 27, ground := Ground.chain }], guard := none } : Oper)) (v := ?_) rfl (by kernel_rfl) (by kernel_rfl) (by kernel_rfl) (fun _ _ _ h => h) (Or.inl ⟨by rfl, ?_⟩) (by assumption) ?_
                rotate_left 1
                · intro w hSw; (try dsimp only at hSw); go_simp; try with_reducible rfl
                (try simp only [Act.put, List.setIfInBounds_toArray, List.set_cons_zero, List.set_cons_succ])
                --END
                refine wpAnyH_ready (rs := [34]) (by kernel_rfl) (by simp) ?_
                refine AllReadyH.cons (o := _) rfl (fun K hK => ?_) AllReadyH.nil
                go_simp
                refine HLIVE.out.mono ?_
                rintro e w9 ⟨rfl, hB9⟩
                have HB9 := Lib.hid (HLV.out.trans (hB9.mono HLV.out.size))
                have hcc := (HCX.out.below ((below_drewF wr.heap.size wr).trans hB9) HCX.out.1).2.2.2.2.2
                refine hK.out _ _ hcc (fun hHeld => ?_)
                clear hK K
                (try simp only [Act.put, List.setIfInBounds_toArray, List.set_cons_zero, List.set_cons_succ])
                --TAKES narthex/narthexlaw24.FetchKeeps:26 35 36
                refine wpAnyH_take (i := 35) (oi := ({ dst := some 145, op := Op.pick (Operand.tmp 143) (Operand.tmp 144) (Operand.const (Value.bool false)), type := 4, pos := "law.go:85", after := #[{ on := 33, ground := Ground.data }, { on := 34, ground := Ground.data }], guard := none } : Oper)) (v := ?_) rfl (by kernel_rfl) (by kernel_rfl) (by kernel_rfl) (fun _ _ _ h => h) (Or.inl ⟨by rfl, ?_⟩) (by assumption) ?_
                rotate_left 1
                · intro w hSw; (try dsimp only at hSw); go_simp; try with_reducible rfl
                (try simp only [Act.put, List.setIfInBounds_toArray, List.set_cons_zero, List.set_cons_succ])
                refine wpAnyH_take (i := 36) (oi := ({ dst := some 6, op := Op.assign (Operand.tmp 145), type := 4, pos := "law.go:85", after := #[{ on := 35, ground := Ground.data }, { on := 34, ground := Ground.chain }, { on := 0, ground := Ground.phase }, { on := 1, ground := Ground.phase }, { on := 2, ground := Ground.phase }, { on := 3, ground := Ground.phase }, { on := 4, ground := Ground.phase }, { on := 5, ground := Ground.phase }, { on := 6, ground := Ground.phase }, { on := 7, ground := Ground.phase }, { on := 8, ground := Ground.phase }, { on := 9, ground := Ground.phase }, { on := 10, ground := Ground.phase }, { on := 11, ground := Ground.phase }, { on := 12, ground := Ground.phase }, { on := 13, ground := Ground.phase }, { on := 14, ground := Ground.phase }, { on := 15, ground := Ground.phase }, { on := 16, ground := Ground.phase }, { on := 17, ground := Ground.phase }, { on := 18, ground := Ground.phase }, { on := 19, ground := Ground.phase }, { on := 20, ground := Ground.phase }, { on := 21, ground := Ground.phase }, { on := 22, ground := Ground.phase }, { on := 23, ground := Ground.phase }, { on := 24, ground := Ground.phase }, { on := 25, ground := Ground.phase }, { on := 26, ground := Ground.phase }, { on := 27, ground := Ground.phase }, { on := 28, ground := Ground.phase }, { on := 29, ground := Ground.phase }, { on := 30, ground := Ground.phase }, { on := 31, ground := Ground.phase }, { on := 32, ground := Ground.phase }, { on := 33, ground := Ground.phase }, { on := 34, ground := Ground.phase }, { on := 35, ground := Ground.phase }], guard := none } : Oper)) (v := ?_) rfl (by kernel_rfl) (by kernel_rfl) (by kernel_rfl) (fun _ _ _ h => h) (Or.inl ⟨by rfl, ?_⟩) (by assumption) ?_
                rotate_left 1
                · intro w hSw; (try dsimp only at hSw); go_simp; try with_reducible rfl
                (try simp only [Act.put, List.setIfInBounds_toArray, List.set_cons_zero, List.set_cons_succ])
                --END
                refine wpAnyH_done (by kernel_rfl) ?_ _
                clear hHeld hB9 hcc
                go_wp2
                go_ret
                exact ⟨rfl, HB9.out⟩
    · go_wp2_with fail
      refine (CL.out _ HB2.out).mono ?_
      rintro e w3 ⟨rfl, hB3⟩
      go_wp2
      go_ret
      exact ⟨rfl, HB2.out.trans (hB3.mono HB2.out.size)⟩
end Go.Proofs.YtkneafpmgbgalaaGreatDoor
