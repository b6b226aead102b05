/- The walk of QueryMatches. Conditions: the tables of chars and of utf hold what the text gives them. -/
import Derived.Test.YtlifdmehejehjaaDoorQLive
import Derived.Test.YtlifdmehejehjaaDoorQRMatch
namespace Go.Proofs.YtlifdmehejehjaaDoor
open Go.RowKit Go.Proofs.YtlifdmehejehjaaDoor.QPlain Go.Proofs.YtlifdmehejehjaaDoor.UtfPlain Go.Proofs.YtlifdmehejehjaaDoor.NamePlain
set_option linter.unusedVariables false
set_option linter.unusedSimpArgs false
set_option maxRecDepth 100000 in
set_option maxHeartbeats 4000000 in
theorem queryMatches_any (A : Option Addr) (n cp : Nat) (l : List StN) (A' : Option Addr) (m cp' : Nat) (path : List ByteArray) (w : World) (hn : n ≤ 9223372036854775807) (hm : m ≤ 9223372036854775807) (hs : StsAt w A n l) (hp : TsAt w A' m path) (hf : FormsAt w) (ht : Tabs w) :
    Calls Tryd.prog 3 #[.slice A n cp, .slice A' m cp'] w (BelB true w) := by
  have G := Lib.hid (rgreat_any A n cp l w hn hs)
  have L0 := Lib.hid (live47_any w hf ht)
  cases hg : greatSt l with
  | true =>
    rw [hg] at G
    clear hs hp hf ht hg
    go_enter Tryd.func3, Tryd.ntmps3
    go_wp2_with fail
    refine G.out.mono ?_
    rintro e w1 ⟨rfl, rfl⟩
    go_wp2_with fail
    refine L0.out.mono ?_
    rintro e w2 ⟨rfl, hB⟩
    go_wp2
    go_ret
    exact ⟨rfl, hB⟩
  | false =>
    rw [hg] at G
    have hgs := greatSt_no hg
    have hn70 : n ≤ 70 := by rw [← hs.1]; exact hgs.1
    clear hgs hg
    by_cases h40 : 40 < m
    · have t0 : (40 : Int) < (m : Int) := by omega
      clear hs hp hf ht h40
      go_enter Tryd.func3, Tryd.ntmps3
      go_wp2_with fail
      refine G.out.mono ?_
      rintro e w1 ⟨rfl, rfl⟩
      go_wp2_with fail
      refine L0.out.mono ?_
      rintro e w2 ⟨rfl, hB⟩
      go_wp2
      go_ret
      exact ⟨rfl, hB⟩
    · have t0 : ¬ (40 : Int) < (m : Int) := by omega
      have V := Lib.hid (give_any A n cp l w (by omega) hs)
      have HS := Lib.hid hs
      have HP := Lib.hid hp
      have HF := Lib.hid hf
      have HT := Lib.hid ht
      obtain ⟨b, hb⟩ : ∃ b, b = matchN l path := ⟨_, rfl⟩
      have HB := Lib.hid hb
      clear hs hp hf ht hb L0
      go_enter Tryd.func3, Tryd.ntmps3
      go_wp2_with fail
      refine G.out.mono ?_
      rintro e w1 ⟨rfl, rfl⟩
      go_wp2_with fail
      refine V.out.mono ?_
      rintro e w1 ⟨A1, c1, rfl, hc1, hc2, hrow, hB1⟩
      have hs1 := StsAt.of_own hrow
      have M1 := qmatch_any A1 l.length c1 l A' m cp' path w1 (by rw [HS.out.1]; exact hn) (by omega) hs1 (HP.out.below hB1)
      rw [← HB.out] at M1
      have M1 := Lib.hid M1
      have HB1 := Lib.hid hB1
      clear hc1 hc2 hrow hs1 hB1 V G
      go_wp2_with fail
      refine M1.out.mono ?_
      rintro e w2 ⟨rfl, hB2⟩
      have hB12 := HB1.out.trans (hB2.mono HB1.out.size)
      have M2 := rqmatch_any A n cp l A' m cp' path w2 hn (by omega) (HS.out.below hB12) (HP.out.below hB12)
      rw [← HB.out] at M2
      have M2 := Lib.hid M2
      have HB2 := Lib.hid hB12
      clear hB2 hB12 M1
      go_wp2_with fail
      refine M2.out.mono ?_
      rintro e w3 ⟨rfl, hB3⟩
      have hB13 := HB2.out.trans (hB3.mono HB2.out.size)
      have L3 := Lib.hid (live47_any w3 (HF.out.below hB13 HF.out.size) (HT.out.below hB13 HT.out.size))
      have HB3 := Lib.hid hB13
      have tb : (b == b) = true := by simp
      clear hB3 hB13 M2
      go_wp2_with fail
      refine L3.out.mono ?_
      rintro e w4 ⟨rfl, hB4⟩
      have HB4 := Lib.hid (HB3.out.trans (hB4.mono HB3.out.size))
      clear hB4 L3
      go_wp2
      go_ret
      exact ⟨rfl, HB4.out⟩
end Go.Proofs.YtlifdmehejehjaaDoor
