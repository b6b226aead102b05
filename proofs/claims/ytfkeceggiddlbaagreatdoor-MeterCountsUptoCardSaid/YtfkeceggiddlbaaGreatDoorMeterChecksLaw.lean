/- The walk of narthexlaw26.MeterChecks. Conditions: numbers that Go can hold; internal/bytealg.MaxLen holds an int. -/
import Derived.Test.YtfkeceggiddlbaaGreatDoorMeterNil
namespace Go.Proofs.YtfkeceggiddlbaaGreatDoor
open Go.RowKit Go.Shelf Go.Proofs.YtfkeceggiddlbaaGreatDoor.CharsPlain Go.Proofs.YtfkeceggiddlbaaGreatDoor.UriPlain Go.Proofs.YtfkeceggiddlbaaGreatDoor.SatPlain
set_option linter.unusedVariables false
set_option linter.unusedSimpArgs false
def Cfg7 (g : Nat) (a b c d e f : Int) (A : Option Addr) (n cp : Nat) (W : World) : Prop := W.cell? ⟨g, 0, none⟩ = some (.int .i64 a) ∧ W.cell? ⟨g, 1, none⟩ = some (.int .i64 b) ∧ W.cell? ⟨g, 2, none⟩ = some (.int .i64 c) ∧ W.cell? ⟨g, 3, none⟩ = some (.int .i64 d) ∧ W.cell? ⟨g, 4, none⟩ = some (.int .i64 e) ∧ W.cell? ⟨g, 5, none⟩ = some (.int .i64 f) ∧ W.cell? ⟨g, 6, none⟩ = some (.slice A n cp)
theorem Cfg7.below {g : Nat} {a b c d e f : Int} {A : Option Addr} {n cp : Nat} {w W : World} (h : Cfg7 g a b c d e f A n cp w) (hg : g < w.heap.size) (hb : Below w.heap.size w W) : Cfg7 g a b c d e f A n cp W :=
  ⟨(hb.cell (p := ⟨g, 0, none⟩) hg).trans h.1, (hb.cell (p := ⟨g, 1, none⟩) hg).trans h.2.1, (hb.cell (p := ⟨g, 2, none⟩) hg).trans h.2.2.1, (hb.cell (p := ⟨g, 3, none⟩) hg).trans h.2.2.2.1, (hb.cell (p := ⟨g, 4, none⟩) hg).trans h.2.2.2.2.1, (hb.cell (p := ⟨g, 5, none⟩) hg).trans h.2.2.2.2.2.1, (hb.cell (p := ⟨g, 6, none⟩) hg).trans h.2.2.2.2.2.2⟩
theorem Cfg7.made (w : World) (a b c d e f : Int) (A : Option Addr) (n cp : Nat) : Cfg7 w.heap.size a b c d e f A n cp (w.alloc (.cells (cfgA a b c d e f A n cp) 24)) := by
  refine ⟨?_, ?_, ?_, ?_, ?_, ?_, ?_⟩ <;> (rw [World.cell?_alloc_mark]; rfl)
set_option maxRecDepth 100000 in
set_option maxHeartbeats 8000000 in
theorem meterChecks_any (a b c d e f : Int) (A : Option Addr) (n cp : Nat) (l : List ByteArray) (x : Int) (w : World) (m : Int) (hl : TsAt w A n l) (hn : n ≤ 9223372036854775807) (hx : x ≤ 9223372036854775807) (ha : a ≤ 9223372036854775807) (hb : b ≤ 9223372036854775807) (hf : f ≤ 9223372036854775807) (hm : w.cell? ⟨0, 0, none⟩ = some (.int .i64 m)) :
    Calls Tryz.prog 4 #[cfgV a b c d e f A n cp, .int .i64 x] w (BelB true w) := by
  obtain ⟨W1, hW1⟩ : ∃ W, W = w.alloc (.cells (cfgA a b c d e f A n cp) 24) := ⟨_, rfl⟩
  have hB1 : Below w.heap.size w W1 := by rw [hW1]; exact (Below.refl _ _).alloc (Nat.le_refl _) _
  have hs1 : W1.heap.size = w.heap.size + 1 := by rw [hW1]; simp
  have hz : w.heap.size < W1.heap.size := by omega
  have hq : Cfg7 w.heap.size a b c d e f A n cp W1 := by rw [hW1]; exact Cfg7.made w a b c d e f A n cp
  have hm1 := maxlen_below hm hB1
  have C0 := Lib.hid (great22_any A n cp l W1 (hl.below hB1) hn)
  have CL := Lib.hid (fun w' hm' => live26_any w' m hm')
  have HL1 := Lib.hid (hl.below hB1)
  have HM1 := Lib.hid hm1
  have HB1 := Lib.hid hB1
  have HW1 : Hid (w.alloc (.cells (cfgA a b c d e f A n cp) 24) = W1) := hW1.symm
  have HQ := Lib.hid hq
  clear hl hm hW1 hB1 hs1 hm1 hq
  obtain ⟨q0, q1, q2, q3, q4, q5, q6⟩ := HQ.out
  unfold cfgV at *
  unfold cfgA at *
  go_enter Tryz.func4, Tryz.ntmps4
  go_wp2_with fail
  rw [HW1.out]
  refine C0.out.mono ?_
  rintro x0 w0 ⟨bb, rfl, hw0, hsm⟩
  subst hw0
  cases bb with
  | true =>
    go_wp2_with fail
    go_at_call 8
    refine (CL.out _ HM1.out).mono ?_
    rintro e0 w' ⟨rfl, hb⟩
    go_wp2
    go_ret
    exact ⟨rfl, HB1.out.trans (hb.mono HB1.out.size)⟩
  | false =>
    obtain ⟨h80, h300⟩ := hsm rfl
    have hlen := HL1.out.1
    have HS : Hid (Shorts l) := fun y hy => Nat.le_trans (h300 y hy) (by decide)
    have hn1 : n ≤ 80 := by omega
    clear h80 h300 hlen hsm C0
    have C1 := rmcheck_any a b c d e f A n cp l W1 HL1.out (by omega) HS.out
    have C2 := fun w' hl' hm' => mnew_any a b c d e f A n cp l w' m hl' (by omega) HS.out hm'
    have C3 := fun w' hl' hm' => mcheck_any a b c d e f A n cp l w' m hl' (by omega) HS.out hm'
    have C4 := fun w' => mbound_any a b c d e f A n cp x w' hx ha hb hf
    have C5 := fun w' => rbound_any a b c d e f A n cp x w' hx ha hb hf
    generalize ckM a b c d e f l = k at C1 C2 C3
    generalize boundM x a b f = bd at C4 C5
    unfold cfgV cfgA at C1 C2 C3 C4 C5
    have C1 := Lib.hid C1
    have C2 := Lib.hid C2
    have C3 := Lib.hid C3
    have C4 := Lib.hid C4
    have C5 := Lib.hid C5
    go_wp2_with fail
    go_at_call 6
    refine C1.out.mono ?_
    rintro x0 w2 ⟨rfl, hb2⟩
    have HB2 := Lib.hid (HB1.out.trans (hb2.mono HB1.out.size))
    have HB12 := Lib.hid hb2
    have HM2 := Lib.hid (maxlen_below HM1.out hb2)
    have HL2 := Lib.hid (HL1.out.below hb2)
    clear hb2 C1 q0 q1 q2 q3 q4 q5 q6
    obtain ⟨q0, q1, q2, q3, q4, q5, q6⟩ := HQ.out.below hz HB12.out
    go_wp2_with fail
    go_at_call 9
    refine (C2.out w2 HL2.out HM2.out).mono ?_
    rintro x0 w3 ⟨hb3, hcase⟩
    have HB3 := Lib.hid (HB2.out.trans (hb3.mono HB2.out.size))
    have HB13 := Lib.hid (HB12.out.trans (hb3.mono HB12.out.size))
    have HM3 := Lib.hid (maxlen_below HM2.out hb3)
    have HL3 := Lib.hid (HL2.out.below hb3)
    clear hb3 C2 q0 q1 q2 q3 q4 q5 q6
    have HQ3 := Lib.hid (HQ.out.below hz HB13.out)
    have hz3 : w.heap.size < w3.heap.size := Nat.lt_of_lt_of_le hz HB13.out.size
    have D3 : Hid (∀ W, Below w3.heap.size w3 W → Calls _ _ _ W (TellI k W)) := fun W hb => C3.out W (HL3.out.below hb) (maxlen_below HM3.out hb)
    have DL : Hid (∀ W, Below w3.heap.size w3 W → Calls _ _ _ W (BelB true W)) := fun W hb => CL.out W (maxlen_below HM3.out hb)
    have HK : Hid (∀ W, Below w3.heap.size w3 W → Cfg7 w.heap.size a b c d e f A n cp W) := fun W hb => HQ3.out.below hz3 hb
    clear C3 CL
    rcases hcase with ⟨hk, rfl⟩ | ⟨rfl, g, rfl, -⟩
    · have t1 : (k == 0) = false := by simpa using hk
      go_wp2_with (first
        | (go_at_call 11; refine (nilSpend_any _ _).mono ?_; rintro e0 w' ⟨rfl, rfl⟩)
        | (go_at_call 19; refine (nilDeep_any _ _).mono ?_; rintro e0 w' ⟨rfl, rfl⟩)
        | (go_at_call 20; refine (nilWide_any _ _).mono ?_; rintro e0 w' ⟨rfl, rfl⟩))
      refine (nilEmit_any _ _ _ _ _ _ _ _).mono ?_
      rintro e0 w4 ⟨rfl, HB4⟩
      go_wp2_with (first
        | (go_at_call 19; refine (nilDeep_any _ _).mono ?_; rintro e0 w' ⟨rfl, rfl⟩)
        | (go_at_call 20; refine (nilWide_any _ _).mono ?_; rintro e0 w' ⟨rfl, rfl⟩)
        | (go_at_call 16; refine (nilSpent_any _).mono ?_; rintro e0 w' ⟨rfl, rfl⟩)
        | (go_at_call 17; refine (nilOut_any _).mono ?_; rintro e0 w' ⟨rfl, rfl⟩)
        | (go_at_call 18; refine (nilWork_any _).mono ?_; rintro e0 w' ⟨rfl, rfl⟩))
      obtain ⟨q0, q1, q2, q3, q4, q5, q6⟩ := HK.out w4 HB4
      go_region_held3 (fun W => W.cell? ⟨w.heap.size, 0, none⟩ = some (.int .i64 a) ∧ W.cell? ⟨w.heap.size, 1, none⟩ = some (.int .i64 b) ∧ W.cell? ⟨w.heap.size, 2, none⟩ = some (.int .i64 c) ∧ W.cell? ⟨w.heap.size, 3, none⟩ = some (.int .i64 d) ∧ W.cell? ⟨w.heap.size, 4, none⟩ = some (.int .i64 e) ∧ W.cell? ⟨w.heap.size, 5, none⟩ = some (.int .i64 f) ∧ W.cell? ⟨w.heap.size, 6, none⟩ = some (.slice A n cp)) (first | exact HK8 | exact HK7 | exact HK6 | exact HK5 | exact HK.out w4 HB4)
        (first
        | (go_at_call 21; refine (D3.out _ (by first | exact HB4.drew | exact below_drewN HB4 _ | exact HB4)).mono ?_; rintro e0 w5 ⟨rfl, hb5⟩; have HB5 : Below w3.heap.size w3 w5 := (by first | exact HB4.drew | exact below_drewN HB4 1 | exact HB4 : Below w3.heap.size w3 _).trans (hb5.mono HB4.size); have HK5 := HK.out w5 HB5; clear hb5)
        | (go_at_call 22; refine (C4.out w5).mono ?_; rintro e0 w6 ⟨rfl, hb6⟩; have HB6 : Below w3.heap.size w3 w6 := HB5.trans (hb6.mono HB5.size); have HK6 := HK.out w6 HB6; clear hb6)
        | (go_at_call 23; refine (C5.out w6).mono ?_; rintro e0 w7 ⟨rfl, hb7⟩; have HB7 : Below w3.heap.size w3 w7 := HB6.trans (hb7.mono HB6.size); have HK7 := HK.out w7 HB7; clear hb7)
        | (go_at_call 8; refine (DL.out w7 HB7).mono ?_; rintro e0 w8 ⟨rfl, hb8⟩; have HB8 : Below w3.heap.size w3 w8 := HB7.trans (hb8.mono HB7.size); have HK8 := HK.out w8 HB8; clear hb8))
      go_wp2
      go_ret
      exact ⟨rfl, HB3.out.trans (HB8.mono HB3.out.size)⟩
    · go_wp2_with (first
        | (go_at_call 11; refine (nilSpend_any _ _).mono ?_; rintro e0 w' ⟨rfl, rfl⟩)
        | (go_at_call 19; refine (nilDeep_any _ _).mono ?_; rintro e0 w' ⟨rfl, rfl⟩)
        | (go_at_call 20; refine (nilWide_any _ _).mono ?_; rintro e0 w' ⟨rfl, rfl⟩))
      refine (nilEmit_any _ _ _ _ _ _ _ _).mono ?_
      rintro e0 w4 ⟨rfl, HB4⟩
      go_wp2_with (first
        | (go_at_call 19; refine (nilDeep_any _ _).mono ?_; rintro e0 w' ⟨rfl, rfl⟩)
        | (go_at_call 20; refine (nilWide_any _ _).mono ?_; rintro e0 w' ⟨rfl, rfl⟩)
        | (go_at_call 16; refine (nilSpent_any _).mono ?_; rintro e0 w' ⟨rfl, rfl⟩)
        | (go_at_call 17; refine (nilOut_any _).mono ?_; rintro e0 w' ⟨rfl, rfl⟩)
        | (go_at_call 18; refine (nilWork_any _).mono ?_; rintro e0 w' ⟨rfl, rfl⟩))
      obtain ⟨q0, q1, q2, q3, q4, q5, q6⟩ := HK.out w4 HB4
      go_region_held3 (fun W => W.cell? ⟨w.heap.size, 0, none⟩ = some (.int .i64 a) ∧ W.cell? ⟨w.heap.size, 1, none⟩ = some (.int .i64 b) ∧ W.cell? ⟨w.heap.size, 2, none⟩ = some (.int .i64 c) ∧ W.cell? ⟨w.heap.size, 3, none⟩ = some (.int .i64 d) ∧ W.cell? ⟨w.heap.size, 4, none⟩ = some (.int .i64 e) ∧ W.cell? ⟨w.heap.size, 5, none⟩ = some (.int .i64 f) ∧ W.cell? ⟨w.heap.size, 6, none⟩ = some (.slice A n cp)) (first | exact HK8 | exact HK7 | exact HK6 | exact HK5 | exact HK.out w4 HB4)
        (first
        | (go_at_call 21; refine (D3.out _ (by first | exact HB4.drew | exact below_drewN HB4 _ | exact HB4)).mono ?_; rintro e0 w5 ⟨rfl, hb5⟩; have HB5 : Below w3.heap.size w3 w5 := (by first | exact HB4.drew | exact below_drewN HB4 1 | exact HB4 : Below w3.heap.size w3 _).trans (hb5.mono HB4.size); have HK5 := HK.out w5 HB5; clear hb5)
        | (go_at_call 22; refine (C4.out w5).mono ?_; rintro e0 w6 ⟨rfl, hb6⟩; have HB6 : Below w3.heap.size w3 w6 := HB5.trans (hb6.mono HB5.size); have HK6 := HK.out w6 HB6; clear hb6)
        | (go_at_call 23; refine (C5.out w6).mono ?_; rintro e0 w7 ⟨rfl, hb7⟩; have HB7 : Below w3.heap.size w3 w7 := HB6.trans (hb7.mono HB6.size); have HK7 := HK.out w7 HB7; clear hb7)
        | (go_at_call 8; refine (DL.out w7 HB7).mono ?_; rintro e0 w8 ⟨rfl, hb8⟩; have HB8 : Below w3.heap.size w3 w8 := HB7.trans (hb8.mono HB7.size); have HK8 := HK.out w8 HB8; clear hb8))
      go_wp2
      go_ret
      exact ⟨rfl, HB3.out.trans (HB8.mono HB3.out.size)⟩
end Go.Proofs.YtfkeceggiddlbaaGreatDoor
