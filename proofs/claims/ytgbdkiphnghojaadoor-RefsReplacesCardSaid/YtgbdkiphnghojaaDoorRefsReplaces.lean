/- The law RefsReplaces walked. Conditions: the tables of chars and of utf hold what the text gives them. -/
import Derived.Test.YtgbdkiphnghojaaDoorRefReplace
import Derived.Test.YtgbdkiphnghojaaDoorRefLive
import Derived.Deep.QuietTactic
namespace Go.Proofs.YtgbdkiphnghojaaDoor
open Go.RowKit Go.Shelf Go.Proofs.YtgbdkiphnghojaaDoor.UtfPlain Go.Proofs.YtgbdkiphnghojaaDoor.CharsPlain Go.Proofs.YtgbdkiphnghojaaDoor.NamePlain Go.Proofs.YtgbdkiphnghojaaDoor.RefPlain
set_option maxHeartbeats 1000000 in
set_option maxRecDepth 100000 in
theorem refReplace0_any (s : ByteArray) (w : World) : Calls Tryd.prog 14 #[.string s, .nilFunc] w (RetS s w) := by
  have hnf : ∀ w' : World, (binOp .eql 36 .nilFunc .nilFunc).run Tryd.prog w' = .ok (.bool true) w' := fun w' => by kernel_rfl
  have hB : Below w.heap.size w ((w.alloc (.cells #[.string s] 9)).alloc (.cells #[.nilFunc] 36)) := ((Below.refl _ w).alloc (Nat.le_refl _) _).alloc (by simp) _
  go_enter Tryd.func14, Tryd.ntmps14
  go_wp2
  go_ret
  exact ⟨rfl, hB⟩
set_option maxRecDepth 100000 in
set_option maxHeartbeats 8000000 in
theorem refsReplaces_any (s name by_ : ByteArray) (w : World) (hf : FormsAt w) (ht : Tabs w) :
    Calls Tryd.prog 5 #[.string s, .string name, .string by_] w fun e w' => e = .returned (.bool true) ∧ Below w.heap.size w w' := by
  have q0 := Boxed.new w 9 (.string name)
  have q1 := Boxed.new (w.alloc (.cells #[.string name] 9)) 9 (.string by_)
  simp only [World.size_alloc] at q1
  have a0 := q0.alloc (.cells #[.string by_] 9)
  have hB0 : Below w.heap.size w ((w.alloc (.cells #[.string name] 9)).alloc (.cells #[.string by_] 9)) := ((Below.refl _ w).alloc (Nat.le_refl _) _).alloc (by simp) _
  have hz : w.heap.size + 2 = ((w.alloc (.cells #[.string name] 9)).alloc (.cells #[.string by_] 9)).heap.size := by simp
  have c0 := a0.cell
  have c1 := q1.cell
  have HF := Lib.hid (hf.below hB0 hf.size)
  have HT := Lib.hid (ht.below hB0 ht.size)
  have HB0 := Lib.hid hB0
  clear q0 hB0 hf ht
  rcases Int.lt_or_le 400 (s.size : Int) with hs | hs
  rotate_left 1
  · rcases Int.lt_or_le 100 (by_.size : Int) with hb | hb
    rotate_left 1
    · go_enter Tryd.func5, Tryd.ntmps5
      go_wp2_with fail
      refine (refReplace1_any s name by_ w.heap.size (w.heap.size + 1) _ (by omega) (by omega) (by omega) (by omega) c0 c1 HF.out HT.out).mono ?_
      rintro e w1 ⟨rfl, hB1⟩
      have HC := Lib.hid (HB0.out.trans (hB1.mono HB0.out.size))
      have d0 := (hB1.cell (p := ⟨w.heap.size, 0, none⟩) (by show w.heap.size < _; omega)).trans c0
      have d1 := (hB1.cell (p := ⟨w.heap.size + 1, 0, none⟩) (by show w.heap.size + 1 < _; omega)).trans c1
      have HF1 := Lib.hid (HF.out.below hB1 HF.out.size)
      have HT1 := Lib.hid (HT.out.below hB1 HT.out.size)
      have hz1 := hB1.size
      clear hB1
      go_wp2_with fail
      refine (refReplace2_any s w1 (by omega) HF1.out HT1.out).mono ?_
      rintro e w2 ⟨rfl, hB1⟩
      have HC := Lib.hid (HC.out.trans (hB1.mono HC.out.size))
      have e0 := (hB1.cell (p := ⟨w.heap.size, 0, none⟩) (by show w.heap.size < _; omega)).trans d0
      have e1 := (hB1.cell (p := ⟨w.heap.size + 1, 0, none⟩) (by show w.heap.size + 1 < _; omega)).trans d1
      have HF2 := Lib.hid (HF1.out.below hB1 HF1.out.size)
      have HT2 := Lib.hid (HT1.out.below hB1 HT1.out.size)
      rw [repN_same ampF s (fun x => rfl)]
      clear hB1
      go_wp2_with fail
      refine (rreplace_any s name by_ w2 (by omega) (by omega)).mono ?_
      rintro e w3 ⟨rfl, hB1⟩
      have HC := Lib.hid (HC.out.trans (hB1.mono HC.out.size))
      have HF3 := Lib.hid (HF2.out.below hB1 HF2.out.size)
      have HT3 := Lib.hid (HT2.out.below hB1 HT2.out.size)
      have t0 := sL_yes (repN (byF s name by_) s)
      have t1 := sL_yes s
      clear hB1
      go_wp2_with fail
      refine (refReplace0_any s w3).mono ?_
      rintro e w4 ⟨rfl, hB1⟩
      have HC := Lib.hid (HC.out.trans (hB1.mono HC.out.size))
      have HF4 := Lib.hid (HF3.out.below hB1 HF3.out.size)
      have HT4 := Lib.hid (HT3.out.below hB1 HT3.out.size)
      clear hB1
      go_wp2_with fail
      refine (live18_any w4 HF4.out HT4.out).mono ?_
      rintro e w5 ⟨rfl, hB⟩
      have HC := Lib.hid (HC.out.trans (hB.mono HC.out.size))
      go_wp2
      go_ret
      exact ⟨rfl, HC.out⟩
    all_goals
      go_enter Tryd.func5, Tryd.ntmps5
      go_wp2_with fail
      all_goals
        refine (live18_any _ HF.out HT.out).mono ?_
        rintro e w1 ⟨rfl, hB⟩
        go_wp2
        go_ret
        exact ⟨rfl, HB0.out.trans (hB.mono HB0.out.size)⟩
  all_goals
    go_enter Tryd.func5, Tryd.ntmps5
    go_wp2_with fail
    all_goals
      refine (live18_any _ HF.out HT.out).mono ?_
      rintro e w1 ⟨rfl, hB⟩
      go_wp2
      go_ret
      exact ⟨rfl, HB0.out.trans (hB.mono HB0.out.size)⟩
end Go.Proofs.YtgbdkiphnghojaaDoor
