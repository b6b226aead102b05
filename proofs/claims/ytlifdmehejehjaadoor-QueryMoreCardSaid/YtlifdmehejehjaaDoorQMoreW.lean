/- The walk of QueryMore at events of any size. Conditions: the tables of chars and of utf hold what the text gives them. -/
import Derived.Test.YtlifdmehejehjaaDoorQMorePlain
import Derived.Test.YtlifdmehejehjaaDoorEvWrap
import Derived.Test.YtlifdmehejehjaaDoorQGive
import Derived.Test.YtlifdmehejehjaaDoorUtfRunes
import Derived.Laws.OwnMore
import Derived.Deep.MidRow
namespace Go.Proofs.YtlifdmehejehjaaDoor
open Go.RowKit Go.Proofs.YtlifdmehejehjaaDoor.QPlain
set_option linter.unusedVariables false
set_option linter.unusedSimpArgs false
theorem stCells_set (l : List StN) (j : Nat) (x : StN) : stCells (l.set j x) = (((stCells l).set (j * 3) (.bool x.any)).set (j * 3 + 1) (.bool x.deep)).set (j * 3 + 2) (.string x.nm) := by
  induction l generalizing j with
  | nil => simp [stCells]
  | cons y l ih =>
    cases j with
    | zero => simp [stCells]
    | succ j =>
      have h := ih j
      have e1 : (j + 1) * 3 = j * 3 + 1 + 1 + 1 := by omega
      have e2 : (j + 1) * 3 + 1 = j * 3 + 1 + 1 + 1 + 1 := by omega
      have e3 : (j + 1) * 3 + 2 = j * 3 + 2 + 1 + 1 + 1 := by omega
      simp only [List.set_cons_succ, stCells, List.flatMap_cons, List.cons_append, List.nil_append, e2, e3, e1] at h ⊢
      rw [h]
theorem own_addr {w : World} {base c n : Nat} {T : TypeId} {A : Option Addr} {cs : List Value} {sz : Nat} (h : w.ownsRow base T sz (.slice A n c) n cs) (hn : 0 < n) : ∃ g, A = some ⟨g, 0, none⟩ ∧ base ≤ g ∧ g < w.heap.size := by
  rcases h.2 with ⟨_, h2⟩ | ⟨g, cap, cur, hv, hg, hh, _⟩
  · omega
  · cases hv
    exact ⟨g, rfl, hg, (h.lt g rfl).2⟩
/-- A step in the place of another one, in a row of the call's own. -/
theorem own_step {w : World} {base c g : Nat} {T : TypeId} {l : List StN} (h : w.ownsRow base T 3 (.slice (some ⟨g, 0, none⟩) l.length c) l.length (stCells l)) (j : Nat) (x : StN) :
    (((w.setCell ⟨g, j * 3, none⟩ (.bool x.any)).setCell ⟨g, j * 3 + 1, none⟩ (.bool x.deep)).setCell ⟨g, j * 3 + 2, none⟩ (.string x.nm)).ownsRow base T 3 (.slice (some ⟨g, 0, none⟩) l.length c) l.length (stCells (l.set j x)) := by
  rw [stCells_set]
  exact (((h.stored _ _).1.stored _ _).1.stored _ _).1
set_option maxRecDepth 100000 in
set_option maxHeartbeats 4000000 in
theorem queryMoreW_in (A : Option Addr) (n cp : Nat) (l : List Ev) (A' : Option Addr) (m cp' : Nat) (st : List StN) (at_ : Nat) (w : World) (hl : EvsAt w A n l) (hn : n ≤ 1048576) (hc : n ≤ cp) (hc2 : cp ≤ 9223372036854775807) (hm : m ≤ 9223372036854775807) (hs : StsAt w A' m st) (ha : at_ < 256) (hv : ∀ W, Below w.heap.size w W → Calls Tryd.prog 8 #[] W (BelB true W))
    (hg1 : greatW n l = false) (hg2 : greatSt st = false) (hm0 : 0 < m) (hm64 : m ≤ 64) :
    Calls Tryd.prog 4 #[.slice A n cp, .slice A' m cp', .int .u8 at_] w (BelB true w) := by
  obtain rfl := hs.1
  have G1 := greatW_any A n cp l w hl (by omega)
  rw [hg1] at G1
  have G2 := fun w' => rgreat_any A' st.length cp' st w' hm
  simp only [hg2] at G2
  have G1 := Lib.hid G1
  have G2 := Lib.hid G2
  have L := Lib.hid hl
  have HS := Lib.hid hs
  have HV := Lib.hid hv
  have t0 : ¬ (64 : Int) < (st.length : Int) := by omega
  have t1 : ((st.length : Int) == 0) = false := beq_eq_false_iff_ne.2 (by omega)
  clear hl hs hv hg1 hg2
  go_enter Tryd.func4, Tryd.ntmps4
  go_wp2_with fail
  refine G1.out.mono ?_
  rintro e w1 ⟨rfl, hB1⟩
  have HB1 := Lib.hid hB1
  clear hB1
  go_wp2_with fail
  refine (G2.out w1 (HS.out.below HB1.out)).mono ?_
  rintro e w1' ⟨rfl, rfl⟩
  go_wp2_with fail
  refine (give_any A' st.length cp' st w1 (by omega) (HS.out.below HB1.out)).mono ?_
  rintro e w2 ⟨A1, c1, rfl, hc1, hc12, hrow, hB2⟩
  have HB2 := Lib.hid (HB1.out.trans (hB2.mono HB1.out.size))
  have HRB := Lib.hid (hB2.size)
  have HRO := Lib.hid hrow
  have Q1 := qfind_any A n cp l A1 st.length c1 st w2 (L.out.below HB2.out) (StsAt.of_own hrow) hn hc hc2 (by omega)
  have Q1 := Lib.hid Q1
  clear hB2 hrow G1 G2
  go_wp2_with fail
  refine Q1.out.mono ?_
  rintro e w3 ⟨A2, c2, rfl, hc2a, hc2b, hown, hB3⟩
  have HB3 := Lib.hid (HB2.out.trans (hB3.mono HB2.out.size))
  have HRO3 := Lib.hid (ownRow_below HRO.out hB3)
  have HO2 := Lib.hid hown
  obtain ⟨g, rfl, hg, hgl⟩ := own_addr HRO.out hm0
  obtain ⟨j, hj, hjl⟩ : ∃ j : Nat, (at_ : Int) % (st.length : Int) = (j : Int) ∧ j < st.length := ⟨at_ % st.length, by omega, Nat.mod_lt _ hm0⟩
  have b0 : (0 : Int) ≤ (j : Int) := by omega
  have b1 : (j : Int) < (st.length : Int) := by omega
  have OS := own_step HRO3.out j stD
  have hth : w3.there g (j * 3) 3 := fun i hi => by
    refine ⟨?_, HRO3.out.frozenAt _⟩
    rw [HRO3.out.cellAt _ (by omega)]
    have := stCells_at st j (st[j]) (List.getElem?_eq_getElem hjl)
    rcases (show i = 0 ∨ i = 1 ∨ i = 2 by omega) with rfl | rfl | rfl
    · simp [this.1]
    · simp [this.2.1]
    · simp [this.2.2]
  have HTH := Lib.hid hth
  obtain ⟨w4, hw4⟩ : ∃ w4, w4 = w3.setCells g (j * 3) [.bool false, .bool true, .string ⟨#[]⟩] := ⟨_, rfl⟩
  have HW4 := Lib.hid hw4
  have OS4 := Lib.hid (show w4.ownsRow w1.heap.size 35 3 (.slice (some ⟨g, 0, none⟩) st.length c1) st.length (stCells (st.set j stD)) by rw [hw4]; exact OS)
  have GL := Lib.hid hgl
  have WB4 : Hid (w3.grownBy w4 (some g)) := by rw [hw4]; exact ((grownBy_setAny w3 ⟨g, j * 3, none⟩ _).trans (grownBy_setAny _ ⟨g, j * 3 + 1, none⟩ _)).trans (grownBy_setAny _ ⟨g, j * 3 + 1 + 1, none⟩ _)
  have hB4 : Below w.heap.size w w4 := HB3.out.grown WB4.out HB3.out.size (fun k e => by cases e; exact Nat.le_trans HB1.out.size hg)
  have hO2 := HO2.out.kept WB4.out (by
    cases hv : (Value.slice A2 (qfindK l st n).length c2).ownBlock with
    | none => exact .inl rfl
    | some k => exact .inr (fun e => by cases e; exact absurd (HO2.out.lt _ hv).1 (by omega)))
  have hI2 := IntsAt.of_own hO2
  have hs4 : StsAt w4 (some ⟨g, 0, none⟩) st.length (st.set j stD) := by
    have h := OS4.out
    rw [show st.length = (st.set j stD).length by simp] at h ⊢
    exact StsAt.of_own h
  have Q2 := qfind_any A n cp l (some ⟨g, 0, none⟩) st.length c1 (st.set j stD) w4 (L.out.below hB4) hs4 hn hc hc2 (by omega)
  have Q2 := Lib.hid Q2
  have HB4 := Lib.hid hB4
  have HI2 := Lib.hid hI2
  have hsub := fun x => find_more l st j n x
  have HSUB := Lib.hid hsub
  have hxl := qfindK_len l st n
  have hyl := qfindK_len l (st.set j stD) n
  generalize qfindK l st n = xs at *
  generalize qfindK l (st.set j stD) n = ys at *
  clear hown hB3 Q1 hth OS hw4 hc1 hc12 hB4 hO2 hI2 hs4 hsub HO2 OS4 WB4 HRO HRB HRO3 HB3 HB2 HB1
  go_wp2_with (refine wpList_store_mid (by rfl) 35 (.tmp 45) (.tmp 44) (by rfl) g (j * 3) #[.bool false, .bool true, .string ⟨#[]⟩] (by rfl) (by rfl) HTH.out (by kernel_rfl) (by simp [Value.oneCell']) ?_; rw [← HW4.out])
  refine Q2.out.mono ?_
  rintro e w5 ⟨A3, c3, rfl, hc3a, hc3b, hown3, hB5⟩
  have HB5 := Lib.hid (HB4.out.trans (hB5.mono HB4.out.size))
  have HI2 := Lib.hid (HI2.out.below hB5)
  have HI3 := Lib.hid (IntsAt.of_own hown3)
  clear hown3 hB5 Q2
  go_wp2_with fail
  go_loopw [10] (fun v10 wr => ∃ (i d : Nat), i ≤ xs.length ∧ v10 = .int .i64 i ∧ wr = w5.drewN d) (fun v10 _ => xs.length - (intOf v10).toNat)
  case atStart => exact ⟨0, 0, Nat.zero_le _, rfl, rfl⟩
  case round =>
    obtain ⟨i, d, hi, rfl, rfl⟩ := hrel
    by_cases hlt : i < xs.length
    · obtain ⟨a, x, hA, hx, -, hcx⟩ := HI2.out.2 i hlt
      subst hA
      have e0 : (0 : Int) ≤ (i : Int) := by omega
      have e1 : (i : Int) < (xs.length : Int) := by omega
      have hin := HSUB.out x (List.mem_of_getElem? hx)
      have hend := memK_in ys x hin
      have HEND := Lib.hid hend
      clear hend hin hx
      go_wp2
      go_loopw [11, 12] (fun v11 v12 wr => ∃ (k d : Nat), k ≤ ys.length ∧ v11 = .bool (memK ys x k) ∧ v12 = .int .i64 k ∧ wr = w5.drewN d) (fun _ v12 _ => ys.length - (intOf v12).toNat)
      case atStart => exact ⟨0, _, Nat.zero_le _, rfl, rfl, rfl⟩
      case round =>
        obtain ⟨k, d, hk, rfl, rfl, rfl⟩ := hrel
        by_cases hltk : k < ys.length
        · obtain ⟨a3, y, hA3, hy, -, hcy⟩ := HI3.out.2 k hltk
          subst hA3
          have d0 : (0 : Int) ≤ (k : Int) := by omega
          have d1 : (k : Int) < (ys.length : Int) := by omega
          have hsu := memK_succ ys x y k hy
          generalize memK ys x k = b at *
          have HSU := Lib.hid hsu
          clear hsu hy
          cases b with
          | true =>
            go_wp2
            go_quiet (fail)
            go_wp2
            go_roundw
            case rel => exact ⟨k + 1, _, by omega, by rw [HSU.out, Bool.true_or], by go_num, rfl⟩
            case measure => simp [intOf]; omega
          | false =>
            go_wp2
            go_quiet (fail)
            go_wp2
            go_roundw
            case rel => exact ⟨k + 1, _, by omega, by rw [HSU.out, Bool.false_or]; rfl, by go_num, rfl⟩
            case measure => simp [intOf]; omega
        · obtain rfl : k = ys.length := by omega
          rw [HEND.out]
          go_wp2
          go_roundw
          case rel => exact ⟨i + 1, d, by omega, by go_num, rfl⟩
          case measure => simp [intOf]; omega
    · obtain rfl : i = xs.length := by omega
      have HBd := Lib.hid (HB5.out.trans (below_drewN _ w5 d))
      have hb6 := HBd.out.alloc HBd.out.size (.cells #[.bool false, .bool true, .string ⟨#[]⟩] 35)
      have hsd : StsAt ((w5.drewN d).alloc (.cells #[.bool false, .bool true, .string ⟨#[]⟩] 35)) (some ⟨w5.heap.size, 0, none⟩) 1 [stD] := by
        have h := World.ownsRow_lit (w := w5.drewN d) (base := 0) (e := 35) (size := 3) #[.bool false, .bool true, .string ⟨#[]⟩] 1 (Nat.zero_le _) (by decide) (by rfl)
        exact StsAt.of_own (l := [stD]) h
      have Q3 := qfind_any A n cp l (some ⟨w5.heap.size, 0, none⟩) 1 1 [stD] _ (L.out.below hb6) hsd hn hc hc2 (by decide)
      have Q3 := Lib.hid Q3
      have HB6 := Lib.hid hb6
      clear hb6 hsd HI2 HI3 HSUB HBd HB5
      go_wp2_with fail
      refine Q3.out.mono ?_
      rintro e w7 ⟨A4, c4, rfl, -, -, -, hB7⟩
      have HB7 := Lib.hid (HB6.out.trans (hB7.mono HB6.out.size))
      have hdl := deep_len l n
      rw [hdl]
      clear hB7 Q3 hdl
      go_wp2
      go_loopw [14, 15] (fun v14 v15 wr => ∃ (k d : Nat), k ≤ n ∧ v14 = .int .i64 (startsN l k : Nat) ∧ v15 = .int .i64 k ∧ wr = w7.drewN d) (fun _ v15 _ => n - (intOf v15).toNat)
      case atStart => exact ⟨0, 0, Nat.zero_le _, rfl, rfl, rfl⟩
      case round =>
        obtain ⟨k, d, hk, rfl, rfl, rfl⟩ := hrel
        by_cases hltk : k < n
        · obtain ⟨a, e, rfl, hx, he, -⟩ := (L.out.below HB7.out).2 k hltk
          obtain ⟨-, g0, -⟩ := he
          have d0 : (0 : Int) ≤ (k : Int) := by omega
          have d1 : (k : Int) < (n : Int) := by omega
          have hsu := starts_succ l k e hx
          have hsl := starts_le l k
          generalize startsN l k = m at *
          by_cases hk1 : e.k = 1
          · have q1 : (e.k == 1) = true := by simpa using hk1
            rw [if_pos hk1] at hsu
            have HSU := Lib.hid hsu
            clear hsu hx hk1
            go_wp2
            go_roundw
            case rel => exact ⟨k + 1, _, by omega, by rw [HSU.out]; go_num, by go_num, rfl⟩
            case measure => simp [intOf]; omega
          · have q1 : (e.k == 1) = false := by simpa using hk1
            rw [if_neg hk1, Nat.add_zero] at hsu
            have HSU := Lib.hid hsu
            clear hsu hx hk1
            go_wp2
            go_roundw
            case rel => exact ⟨k + 1, _, by omega, by rw [HSU.out]; rfl, by go_num, rfl⟩
            case measure => simp [intOf]; omega
        · obtain rfl : k = n := by omega
          have HBd := Lib.hid (HB7.out.trans (below_drewN _ w7 d))
          have V := Lib.hid (HV.out _ HBd.out)
          go_wp2_with fail
          refine V.out.mono ?_
          rintro e w9 ⟨rfl, hB9⟩
          go_wp2
          go_ret
          exact ⟨rfl, HBd.out.trans (hB9.mono HBd.out.size)⟩
set_option maxRecDepth 100000 in
set_option maxHeartbeats 4000000 in
theorem queryMoreW_any (A : Option Addr) (n cp : Nat) (l : List Ev) (A' : Option Addr) (m cp' : Nat) (st : List StN) (at_ : Nat) (w : World) (hl : EvsAt w A n l) (hc : n ≤ cp) (hc2 : cp ≤ 9223372036854775807) (hm : m ≤ 9223372036854775807) (hs : StsAt w A' m st) (ha : at_ < 256) (hv : ∀ W, Below w.heap.size w W → Calls Tryd.prog 8 #[] W (BelB true W)) :
    Calls Tryd.prog 4 #[.slice A n cp, .slice A' m cp', .int .u8 at_] w (BelB true w) := by
  have G1 := Lib.hid (greatW_any A n cp l w hl (by omega))
  have G2 := Lib.hid (fun w' (hb : Below w.heap.size w w') => rgreat_any A' m cp' st w' hm (hs.below hb))
  cases hg1 : greatW n l with
  | true =>
    rw [hg1] at G1
    have HV := Lib.hid hv
    clear hl hs hv hg1
    go_enter Tryd.func4, Tryd.ntmps4
    go_wp2_with fail
    refine G1.out.mono ?_
    rintro e w1 ⟨rfl, hB1⟩
    have HB1 := Lib.hid hB1
    clear hB1
    go_wp2_with fail
    refine (HV.out _ HB1.out).mono ?_
    rintro e w9 ⟨rfl, hB9⟩
    go_wp2
    go_ret
    exact ⟨rfl, HB1.out.trans (hB9.mono HB1.out.size)⟩
  | false =>
    cases hg2 : greatSt st with
    | true =>
      rw [hg1] at G1
      rw [hg2] at G2
      have HV := Lib.hid hv
      clear hl hs hv hg1 hg2
      go_enter Tryd.func4, Tryd.ntmps4
      go_wp2_with fail
      refine G1.out.mono ?_
      rintro e w1 ⟨rfl, hB1⟩
      have HB1 := Lib.hid hB1
      clear hB1
      go_wp2_with fail
      refine (G2.out _ HB1.out).mono ?_
      rintro e w1' ⟨rfl, rfl⟩
      go_wp2_with fail
      refine (HV.out _ HB1.out).mono ?_
      rintro e w9 ⟨rfl, hB9⟩
      go_wp2
      go_ret
      exact ⟨rfl, HB1.out.trans (hB9.mono HB1.out.size)⟩
    | false =>
      by_cases hm0 : 0 < m
      · by_cases hm64 : m ≤ 64
        · exact queryMoreW_in A n cp l A' m cp' st at_ w hl (Nat.le_trans (greatW_le hg1) (by decide)) hc hc2 hm hs ha hv hg1 hg2 hm0 hm64
        · have t0 : (64 : Int) < (m : Int) := by omega
          have t1 : ((m : Int) == 0) = false := beq_eq_false_iff_ne.2 (by omega)
          rw [hg1] at G1
          rw [hg2] at G2
          have HV := Lib.hid hv
          clear hl hs hv hg1 hg2 hm64
          go_enter Tryd.func4, Tryd.ntmps4
          go_wp2_with fail
          refine G1.out.mono ?_
          rintro e w1 ⟨rfl, hB1⟩
          have HB1 := Lib.hid hB1
          clear hB1
          go_wp2_with fail
          refine (G2.out _ HB1.out).mono ?_
          rintro e w1' ⟨rfl, rfl⟩
          go_wp2_with fail
          refine (HV.out _ HB1.out).mono ?_
          rintro e w9 ⟨rfl, hB9⟩
          go_wp2
          go_ret
          exact ⟨rfl, HB1.out.trans (hB9.mono HB1.out.size)⟩
      · obtain rfl : m = 0 := by omega
        rw [hg1] at G1
        rw [hg2] at G2
        have HV := Lib.hid hv
        clear hl hs hv hg1 hg2
        go_enter Tryd.func4, Tryd.ntmps4
        go_wp2_with fail
        refine G1.out.mono ?_
        rintro e w1 ⟨rfl, hB1⟩
        have HB1 := Lib.hid hB1
        clear hB1
        go_wp2_with fail
        refine (G2.out _ HB1.out).mono ?_
        rintro e w1' ⟨rfl, rfl⟩
        go_wp2_with fail
        refine (HV.out _ HB1.out).mono ?_
        rintro e w9 ⟨rfl, hB9⟩
        go_wp2
        go_ret
        exact ⟨rfl, HB1.out.trans (hB9.mono HB1.out.size)⟩
end Go.Proofs.YtlifdmehejehjaaDoor
