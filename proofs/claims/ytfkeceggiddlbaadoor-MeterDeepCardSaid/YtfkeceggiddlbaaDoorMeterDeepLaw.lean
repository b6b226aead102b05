/- The walk of narthexlaw26.MeterDeep. Conditions: numbers that Go can hold; internal/bytealg.MaxLen holds an int. -/
import Derived.Test.YtfkeceggiddlbaaDoorMeterUse
namespace Go.Proofs.YtfkeceggiddlbaaDoor
open Go.RowKit Go.Shelf Go.Proofs.YtfkeceggiddlbaaDoor.CharsPlain Go.Proofs.YtfkeceggiddlbaaDoor.UriPlain Go.Proofs.YtfkeceggiddlbaaDoor.SatPlain
set_option linter.unusedVariables false
set_option linter.unusedSimpArgs false
theorem deep_is (g : Nat) (x n most on om deep wide doing k : Int) (w : World) (h : MBlk g n most on om deep wide doing w) (hk : abvM x deep = k) : Calls Tryd.prog 8 #[.pointer (some ⟨g, 0, none⟩), .int .i64 x] w (RetI k w) := by rw [← hk]; exact deep_any g x n most on om deep wide doing w h
theorem wide_is (g : Nat) (x n most on om deep wide doing k : Int) (w : World) (h : MBlk g n most on om deep wide doing w) (hk : abvM x wide = k) : Calls Tryd.prog 9 #[.pointer (some ⟨g, 0, none⟩), .int .i64 x] w (RetI k w) := by rw [← hk]; exact wide_any g x n most on om deep wide doing w h
theorem MBlk.drew {b : Nat} {n most on om deep wide doing : Int} {w : World} (h : MBlk b n most on om deep wide doing w) : MBlk b n most on om deep wide doing w.drew := h
theorem abv_eq (n most : Int) : (abvM n most == 11) = decide (most < n) := by
  unfold abvM
  by_cases h : most < n
  · rw [if_pos h, decide_eq_true h]; rfl
  · rw [if_neg h, decide_eq_false h]; rfl
set_option maxRecDepth 100000 in
set_option maxHeartbeats 4000000 in
theorem meterDeep_any (a b c d e f : Int) (A : Option Addr) (n cp : Nat) (l : List ByteArray) (x : Int) (w : World) (m : Int) (hl : TsAt w A n l) (hn : n ≤ 9223372036854775807) (hm : w.cell? ⟨0, 0, none⟩ = some (.int .i64 m)) :
    Calls Tryd.prog 3 #[cfgV a b c d e f A n cp, .int .i64 x] w (BelB true w) := by
  obtain ⟨W1, hW1⟩ : ∃ W, W = w.alloc (.cells (cfgA a b c d e f A n cp) 24) := ⟨_, rfl⟩
  have hB1 : Below w.heap.size w W1 := by rw [hW1]; exact (Below.refl _ _).alloc (Nat.le_refl _) _
  have hs1 : W1.heap.size = w.heap.size + 1 := by rw [hW1]; simp
  have hz : w.heap.size < W1.heap.size := by omega
  have q0 : W1.cell? ⟨w.heap.size, 0, none⟩ = some (.int .i64 a) := by rw [hW1, World.cell?_alloc_mark]; rfl
  have q1 : W1.cell? ⟨w.heap.size, 1, none⟩ = some (.int .i64 b) := by rw [hW1, World.cell?_alloc_mark]; rfl
  have q2 : W1.cell? ⟨w.heap.size, 2, none⟩ = some (.int .i64 c) := by rw [hW1, World.cell?_alloc_mark]; rfl
  have q3 : W1.cell? ⟨w.heap.size, 3, none⟩ = some (.int .i64 d) := by rw [hW1, World.cell?_alloc_mark]; rfl
  have q4 : W1.cell? ⟨w.heap.size, 4, none⟩ = some (.int .i64 e) := by rw [hW1, World.cell?_alloc_mark]; rfl
  have q5 : W1.cell? ⟨w.heap.size, 5, none⟩ = some (.int .i64 f) := by rw [hW1, World.cell?_alloc_mark]; rfl
  have q6 : W1.cell? ⟨w.heap.size, 6, none⟩ = some (.slice A n cp) := by rw [hW1, World.cell?_alloc_mark]; rfl
  have HQ : Hid (∀ W, Below W1.heap.size W1 W → W.cell? ⟨w.heap.size, 0, none⟩ = some (.int .i64 a) ∧ W.cell? ⟨w.heap.size, 1, none⟩ = some (.int .i64 b) ∧ W.cell? ⟨w.heap.size, 2, none⟩ = some (.int .i64 c) ∧ W.cell? ⟨w.heap.size, 3, none⟩ = some (.int .i64 d) ∧ W.cell? ⟨w.heap.size, 4, none⟩ = some (.int .i64 e) ∧ W.cell? ⟨w.heap.size, 5, none⟩ = some (.int .i64 f) ∧ W.cell? ⟨w.heap.size, 6, none⟩ = some (.slice A n cp)) := fun W hb =>
    ⟨(hb.cell (p := ⟨w.heap.size, 0, none⟩) hz).trans q0, (hb.cell (p := ⟨w.heap.size, 1, none⟩) hz).trans q1, (hb.cell (p := ⟨w.heap.size, 2, none⟩) hz).trans q2, (hb.cell (p := ⟨w.heap.size, 3, none⟩) hz).trans q3, (hb.cell (p := ⟨w.heap.size, 4, none⟩) hz).trans q4, (hb.cell (p := ⟨w.heap.size, 5, none⟩) hz).trans q5, (hb.cell (p := ⟨w.heap.size, 6, none⟩) hz).trans q6⟩
  have hm1 := maxlen_below hm hB1
  have C0 := Lib.hid (great22_any A n cp l W1 (hl.below hB1) hn)
  have CL := Lib.hid (fun w' hm' => live26_any w' m hm')
  have HL1 := Lib.hid (hl.below hB1)
  have HM1 := Lib.hid hm1
  have HB1 := Lib.hid hB1
  have HW1 : Hid (w.alloc (.cells (cfgA a b c d e f A n cp) 24) = W1) := hW1.symm
  have HR := Lib.hid (Below.refl W1.heap.size W1)
  clear hl hm hW1 hB1 hs1 hm1 q0 q1 q2 q3 q4 q5 q6
  obtain ⟨q0, q1, q2, q3, q4, q5, q6⟩ := HQ.out W1 HR.out
  unfold cfgV at *
  unfold cfgA at *
  go_enter Tryd.func3, Tryd.ntmps3
  go_wp2_with fail
  rw [HW1.out]
  refine C0.out.mono ?_
  rintro x0 w0 ⟨bb, rfl, hw0, hsm⟩
  subst hw0
  cases bb with
  | true =>
    go_wp2_with fail
    go_at_call 6
    refine (CL.out _ HM1.out).mono ?_
    rintro e0 w' ⟨rfl, hb⟩
    go_wp2
    go_ret
    exact ⟨rfl, HB1.out.trans (hb.mono HB1.out.size)⟩
  | false =>
    obtain ⟨h80, h300⟩ := hsm rfl
    have hlen := HL1.out.1
    have HS : Hid (Shorts l) := fun y hy => Nat.le_trans (h300 y hy) (by decide)
    have hn1 : n ≤ 80 := by omega
    clear h80 h300 hlen hsm C0
    have C1 := rmcheck_any a b c d e f A n cp l W1 HL1.out (by omega) HS.out
    have C2 := fun w' hl' hm' => mnew_any a b c d e f A n cp l w' m hl' (by omega) HS.out hm'
    generalize ckM a b c d e f l = k at C1 C2
    unfold cfgV cfgA at C1 C2
    have C1 := Lib.hid C1
    have C2 := Lib.hid C2
    go_wp2_with fail
    go_at_call 5
    refine C1.out.mono ?_
    rintro x0 w2 ⟨rfl, hb2⟩
    have HB2 := Lib.hid (HB1.out.trans (hb2.mono HB1.out.size))
    have HB12 := Lib.hid hb2
    have HM2 := Lib.hid (maxlen_below HM1.out hb2)
    have HL2 := Lib.hid (HL1.out.below hb2)
    clear hb2 C1 q0 q1 q2 q3 q4 q5 q6
    obtain ⟨q0, q1, q2, q3, q4, q5, q6⟩ := HQ.out w2 HB12.out
    by_cases hk : k = 0
    · subst hk
      go_wp2_with fail
      go_at_call 7
      refine (C2.out w2 HL2.out HM2.out).mono ?_
      rintro x0 w3 ⟨hb3, ⟨h, -⟩ | ⟨-, g, rfl, hg, hM⟩⟩
      · exact absurd rfl h
      have HB3 := Lib.hid (HB2.out.trans (hb3.mono HB2.out.size))
      have HB13 := Lib.hid (HB12.out.trans (hb3.mono HB12.out.size))
      have HM3 := Lib.hid (maxlen_below HM2.out hb3)
      have HMB := Lib.hid hM
      clear hb3 hM C2 q0 q1 q2 q3 q4 q5 q6
      obtain ⟨-, -, q2, q3, -, -, -⟩ := HQ.out w3 HB13.out
      obtain ⟨kd, hkd⟩ : ∃ kd, abvM x c = kd := ⟨_, rfl⟩
      obtain ⟨kw, hkw⟩ : ∃ kw, abvM x d = kw := ⟨_, rfl⟩
      have t1 : (kd == 11) = decide (c < x) := by rw [← hkd]; exact abv_eq x c
      have t2 : (kw == 11) = decide (d < x) := by rw [← hkw]; exact abv_eq x d
      have HZ3 : Hid (w.heap.size < w3.heap.size) := Nat.lt_of_lt_of_le hz HB13.out.size
      have HKD := Lib.hid hkd
      have HKW := Lib.hid hkw
      clear hkd hkw
      go_wp2_with fail
      go_region_held3 (fun W => W.cell? ⟨w.heap.size, 2, none⟩ = some (.int .i64 c) ∧ W.cell? ⟨w.heap.size, 3, none⟩ = some (.int .i64 d)) (first | exact hK | exact ⟨q2, q3⟩)
        (first
        | (go_at_call 8; refine (deep_is g x 0 a 0 b c d 0 kd w3.drew HMB.out.drew HKD.out).mono ?_; rintro e0 w' ⟨rfl, rfl⟩)
        | (go_at_call 9; refine (wide_is g x 0 a 0 b c d 0 kw w3.drew HMB.out.drew HKW.out).mono ?_; rintro e0 w' ⟨rfl, rfl⟩)
        | (go_at_call 10; refine (work_any g 0 a 0 b c d 0 w3.drew HMB.out.drew (by decide) (by decide)).mono ?_; rintro e0 w' ⟨rfl, kk, rfl⟩)
        | (go_at_call 6; refine (CL.out _ (by simpa using HM3.out)).mono ?_; rintro e0 w4 ⟨rfl, hb4⟩; have hb5 : Below w3.heap.size w3 w4 := (below_drewN (Below.refl w3.heap.size w3) (1 + kk)).trans hb4; have hK : w4.cell? ⟨w.heap.size, 2, none⟩ = some (.int .i64 c) ∧ w4.cell? ⟨w.heap.size, 3, none⟩ = some (.int .i64 d) := ⟨(hb5.cell (p := ⟨w.heap.size, 2, none⟩) HZ3.out).trans q2, (hb5.cell (p := ⟨w.heap.size, 3, none⟩) HZ3.out).trans q3⟩; clear hb4))
      go_wp2
      go_ret
      exact ⟨rfl, HB3.out.trans (hb5.mono HB3.out.size)⟩
    · have t1 : (k == 0) = false := by simpa using hk
      have t2 : (k != 0) = true := by simpa using hk
      go_wp2_with fail
      go_at_call 6
      refine (CL.out _ HM2.out).mono ?_
      rintro e0 w' ⟨rfl, hb⟩
      go_wp2
      go_ret
      exact ⟨rfl, HB2.out.trans (hb.mono HB2.out.size)⟩
end Go.Proofs.YtfkeceggiddlbaaDoor
