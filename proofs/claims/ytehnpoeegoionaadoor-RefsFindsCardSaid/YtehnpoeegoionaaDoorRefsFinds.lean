/- The walk of RefsFinds. Conditions: the tables of chars and of utf hold what the text gives them. -/
import Derived.Test.YtehnpoeegoionaaDoorRefLive
import Derived.Test.YtehnpoeegoionaaDoorRefCollect
import Derived.Test.YtehnpoeegoionaaDoorRefRNames
import Derived.Test.YtehnpoeegoionaaDoorRefOnce
import Derived.Deep.QuietTactic
import Derived.BigQuiet
namespace Go.Proofs.YtehnpoeegoionaaDoor
open Go.RowKit Go.Proofs.YtehnpoeegoionaaDoor.UtfPlain Go.Proofs.YtehnpoeegoionaaDoor.CharsPlain Go.Proofs.YtehnpoeegoionaaDoor.NamePlain Go.Proofs.YtehnpoeegoionaaDoor.RefPlain
theorem refNames_ts (s : ByteArray) (w : World) (hlen : s.size ≤ 1048576) (hf : FormsAt w) (ht : Tabs w) : Calls Tryd.prog 11 #[.string s] w (TellTs (outN false (namesOf s)) w) := by
  refine (refNames_any s w hlen hf ht).mono ?_
  rintro e w' ⟨A, c, rfl, hrow, hB⟩
  rw [outN_false]
  have hl : (namesOf s).length = (refsN (bsOf s)).length := by simp [namesOf]
  rw [nameCells_txt] at hrow
  have hrow2 : w'.ownsRow w.heap.size 9 1 (.slice A (namesOf s).length c) (namesOf s).length (txtCells (namesOf s)) := by rw [hl]; exact hrow
  exact ⟨A, c, by rw [hl], TsAt.of_own hrow2, hB⟩
theorem ts_small (s : ByteArray) (b : Bool) (hs : s.size ≤ 500) : (outN b (namesOf s)).length ≤ 9223372036854775807 := by
  have h1 := outN_len b (namesOf s)
  have h2 := refsN_len (bsOf s)
  rw [bsOf_len] at h2
  have h3 : (namesOf s).length = (refsN (bsOf s)).length := by simp [namesOf]
  omega
set_option maxRecDepth 100000 in
set_option maxHeartbeats 16000000 in
theorem refsFinds_any (s : ByteArray) (w : World) (hf : FormsAt w) (ht : Tabs w) : Calls Tryd.prog 4 #[.string s] w (BelB true w) := by
  have HF := Lib.hid hf
  have HT := Lib.hid ht
  by_cases hs : s.size ≤ 500
  · have C1 := Lib.hid (refsAll_any s w (by omega) hf ht)
    clear hf ht
    go_enter Tryd.func4, Tryd.ntmps4
    go_wp2_with fail
    refine C1.out.mono ?_
    rintro e w1 ⟨A, c, rfl, hl, hB1⟩
    have HL := Lib.hid hl
    have HB1 := Lib.hid hB1
    clear hl hB1 C1
    go_wp2_with fail
    refine (rall18_any s w1 (by omega)).mono ?_
    rintro e w2 ⟨A2, c2, rfl, hm, hB2⟩
    have L := Lib.hid (HL.out.below hB2)
    have M := Lib.hid hm
    have HB := Lib.hid (HB1.out.trans (hB2.mono HB1.out.size))
    clear hm hB2 HL HB1
    have hrl := refsN_len (bsOf s)
    rw [bsOf_len] at hrl
    obtain ⟨r, hr⟩ : ∃ r, refsN (bsOf s) = r := ⟨_, rfl⟩
    have RS := Lib.hid hr
    obtain ⟨n, hn⟩ : ∃ n, r.length = n := ⟨_, rfl⟩
    rw [hr, hn] at L M hrl ⊢
    clear hr hn
    have b9 : (n : Int) ≤ 501 := by omega
    go_wp2
    go_loopw [5] (fun i wr => ∃ (k d : Nat), k ≤ n ∧ i = .int .i64 k ∧ wr = w2.drewN d) (fun i _ => n - (intOf i).toNat)
    case atStart => exact ⟨0, 0, by omega, rfl, rfl⟩
    case round =>
      obtain ⟨k, d, hk, rfl, rfl⟩ := hrel
      by_cases hlt : k < n
      · obtain ⟨a, x, ha, hx, _, f1, f2, f3⟩ := L.out.2 k hlt
        obtain ⟨a2, x2, ha2, hx2, _, g1, g2, g3⟩ := M.out.2 k hlt
        subst ha ha2
        rw [hx] at hx2
        have hxx := Option.some.inj hx2
        subst hxx
        have t0 := sL_yes (strOfNums x.s)
        have b0 : (0 : Int) ≤ (k : Int) := by omega
        have b1 : (k : Int) < (n : Int) := by omega
        clear hx hx2
        go_wp2_with fail
        go_quiet (fail)
        go_wp2
        go_roundw
        case rel => exact ⟨k + 1, _, by omega, by go_num, rfl⟩
        case measure => simp [intOf]; omega
      · obtain rfl : k = n := by omega
        have HW := Lib.hid (HB.out.trans (belowN_drewN _ w2 d))
        generalize w2.drewN d = w3 at HW ⊢
        go_wp2_with fail
        refine (refNames_ts s w3 (by omega) (HF.out.below HW.out HF.out.size) (HT.out.below HW.out HT.out.size)).mono ?_
        rintro e w4 ⟨A4, c4, rfl, h4, hB4⟩
        have T4 := Lib.hid h4
        have HC := Lib.hid (HW.out.trans (hB4.mono HW.out.size))
        clear h4 hB4
        go_wp2_with fail
        refine (rnames_false s w4 (by omega)).mono ?_
        rintro e w5 ⟨A5, c5, rfl, h5, hB5⟩
        have T5 := Lib.hid h5
        have T4 := Lib.hid (T4.out.below hB5)
        have HC := Lib.hid (HC.out.trans (hB5.mono HC.out.size))
        clear h5 hB5
        go_wp2_with fail
        refine (rtexts_any A4 _ c4 _ A5 _ c5 _ w5 T4.out T5.out (ts_small s false hs)).mono ?_
        rintro e w6 ⟨rfl, d6, rfl⟩
        have HC := Lib.hid (HC.out.trans (belowN_drewN _ w5 d6))
        generalize w5.drewN d6 = w6 at HC ⊢
        clear T4 T5
        go_wp2_with fail
        refine (refOnce_any s w6 (by omega) (HF.out.below HC.out HF.out.size) (HT.out.below HC.out HT.out.size)).mono ?_
        rintro e w7 ⟨A7, c7, rfl, h7, hB7⟩
        have T7 := Lib.hid h7
        have HC := Lib.hid (HC.out.trans (hB7.mono HC.out.size))
        clear h7 hB7
        go_wp2_with fail
        refine (rnames_true s w7 (by omega)).mono ?_
        rintro e w8 ⟨A8, c8, rfl, h8, hB8⟩
        have T8 := Lib.hid h8
        have T7 := Lib.hid (T7.out.below hB8)
        have HC := Lib.hid (HC.out.trans (hB8.mono HC.out.size))
        clear h8 hB8
        go_wp2_with fail
        refine (rtexts_any A7 _ c7 _ A8 _ c8 _ w8 T7.out T8.out (ts_small s true hs)).mono ?_
        rintro e w9 ⟨rfl, d9, rfl⟩
        have HC := Lib.hid (HC.out.trans (belowN_drewN _ w8 d9))
        generalize w8.drewN d9 = w9 at HC ⊢
        clear T7 T8
        go_wp2_with fail
        refine (live18_any w9 (HF.out.below HC.out HF.out.size) (HT.out.below HC.out HT.out.size)).mono ?_
        rintro e w10 ⟨rfl, hB10⟩
        have HC := Lib.hid (HC.out.trans (hB10.mono HC.out.size))
        clear hB10
        go_wp2
        go_ret
        exact ⟨rfl, HC.out⟩
  · go_enter Tryd.func4, Tryd.ntmps4
    go_wp2_with fail
    refine (live18_any w hf ht).mono ?_
    rintro e w1 ⟨rfl, hB⟩
    go_wp2
    go_ret
    exact ⟨rfl, hB⟩
end Go.Proofs.YtehnpoeegoionaaDoor
