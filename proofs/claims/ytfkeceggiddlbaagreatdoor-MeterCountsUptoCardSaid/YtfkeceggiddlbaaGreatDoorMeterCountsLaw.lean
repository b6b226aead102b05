/- The walk of narthexlaw26.MeterCounts. Conditions: numbers that Go can hold; events of at most 2^40 letters; internal/bytealg.MaxLen holds an int. -/
import Derived.Test.YtfkeceggiddlbaaGreatDoorMeterChecksLaw
import Derived.Test.YtfkeceggiddlbaaGreatDoorMeterEmit
namespace Go.Proofs.YtfkeceggiddlbaaGreatDoor
open Go.RowKit Go.Shelf Go.Proofs.YtfkeceggiddlbaaGreatDoor.CharsPlain Go.Proofs.YtfkeceggiddlbaaGreatDoor.UriPlain Go.Proofs.YtfkeceggiddlbaaGreatDoor.SatPlain
set_option linter.unusedVariables false
set_option linter.unusedSimpArgs false
theorem Cfg7.keeps {g g' : Nat} {a b c d e f : Int} {A : Option Addr} {n cp : Nat} {w W : World} (h : Cfg7 g a b c d e f A n cp w) (hg : g ≠ g') (hl : g < w.heap.size) (hb : KeepsBut g' w W) : Cfg7 g a b c d e f A n cp W :=
  ⟨(hb.cell (p := ⟨g, 0, none⟩) hg hl).trans h.1, (hb.cell (p := ⟨g, 1, none⟩) hg hl).trans h.2.1, (hb.cell (p := ⟨g, 2, none⟩) hg hl).trans h.2.2.1, (hb.cell (p := ⟨g, 3, none⟩) hg hl).trans h.2.2.2.1, (hb.cell (p := ⟨g, 4, none⟩) hg hl).trans h.2.2.2.2.1, (hb.cell (p := ⟨g, 5, none⟩) hg hl).trans h.2.2.2.2.2.1, (hb.cell (p := ⟨g, 6, none⟩) hg hl).trans h.2.2.2.2.2.2⟩
theorem RBlk.keeps {b g : Nat} {s o k : Int} {w w' : World} (h : RBlk b s o k w) (hg : b ≠ g) (hb : KeepsBut g w w') : RBlk b s o k w' := by
  have hl := h.lt
  unfold RBlk at *
  rw [hb.1 b hg hl]; exact h
theorem MBlk.keeps {b g : Nat} {n most on om deep wide doing : Int} {w w' : World} (h : MBlk b n most on om deep wide doing w) (hg : b ≠ g) (hb : KeepsBut g w w') : MBlk b n most on om deep wide doing w' := by
  have hl := h.lt
  unfold MBlk at *
  rw [hb.1 b hg hl]; exact h
/-- All that stands in memory in a round: the configuration, the meter, the reference's. -/
structure MCs (w0 : World) (g xb : Nat) (s o k s' o' k' a b c d e f : Int) (A : Option Addr) (n cp : Nat) (W : World) : Prop where
  bel : Below w0.heap.size w0 W
  cfg : Cfg7 w0.heap.size a b c d e f A n cp W
  met : MBlk g s a o b c d k W
  ref : RBlk xb s' o' k' W
theorem MCs.below {w0 : World} {g xb : Nat} {s o k s' o' k' a b c d e f : Int} {A : Option Addr} {n cp : Nat} {W W' : World} (h : MCs w0 g xb s o k s' o' k' a b c d e f A n cp W) (hz : w0.heap.size < W.heap.size) (hb : Below W.heap.size W W') : MCs w0 g xb s o k s' o' k' a b c d e f A n cp W' :=
  ⟨h.bel.trans (hb.mono h.bel.size), h.cfg.below hz hb, h.met.below hb, h.ref.below hb⟩
theorem RBlk.set3 {b : Nat} {s o k s' o' k' : Int} {w : World} (h : RBlk b s o k w) : RBlk b s' o' k' (((w.setCell ⟨b, 0, none⟩ (.int .i64 s')).setCell ⟨b, 1, none⟩ (.int .i64 o')).setCell ⟨b, 2, none⟩ (.int .i64 k')) := by
  have h1 := Go.Joins.block_setCell (i := 0) h (.int .i64 s')
  have h2 := Go.Joins.block_setCell (i := 1) h1 (.int .i64 o')
  exact Go.Joins.block_setCell (i := 2) h2 (.int .i64 k')
theorem keeps_set3 (b : Nat) (x y z : Value) (w : World) : KeepsBut b w (((w.setCell ⟨b, 0, none⟩ x).setCell ⟨b, 1, none⟩ y).setCell ⟨b, 2, none⟩ z) := ((KeepsBut.set b 0 x w).trans (KeepsBut.set b 1 y _)).trans (KeepsBut.set b 2 z _)
theorem below_three' {b q : Nat} {w w' : World} {x y z : Value} (h : Below b w w') (hq : b ≤ q) : Below b w (((w'.setCell ⟨q, 0, none⟩ x).setCell ⟨q, 1, none⟩ y).setCell ⟨q, 2, none⟩ z) :=
  ((h.setCell (p := ⟨q, 0, none⟩) hq x).setCell (p := ⟨q, 1, none⟩) hq y).setCell (p := ⟨q, 2, none⟩) hq z
theorem MCs.setref {w0 : World} {g xb : Nat} {s o k s' o' k' a b c d e f : Int} {A : Option Addr} {n cp : Nat} {W : World} (h : MCs w0 g xb s o k s' o' k' a b c d e f A n cp W) (hz : w0.heap.size < W.heap.size) (h1 : g < xb) (h2 : w0.heap.size < g) (x y z : Int) :
    MCs w0 g xb s o k x y z a b c d e f A n cp (((W.setCell ⟨xb, 0, none⟩ (.int .i64 x)).setCell ⟨xb, 1, none⟩ (.int .i64 y)).setCell ⟨xb, 2, none⟩ (.int .i64 z)) :=
  ⟨below_three' h.bel (by omega), h.cfg.keeps (by omega) hz (keeps_set3 xb _ _ _ W), h.met.keeps (by omega) (keeps_set3 xb _ _ _ W), h.ref.set3⟩
theorem MCs.setother {w0 : World} {g xb : Nat} {s o k s' o' k' a b c d e f : Int} {A : Option Addr} {n cp : Nat} {W : World} (h : MCs w0 g xb s o k s' o' k' a b c d e f A n cp W) (hz : w0.heap.size < W.heap.size) (q : Nat) (h1 : g ≠ q) (h2 : xb ≠ q) (h3 : w0.heap.size < q) (x y z : Value) :
    MCs w0 g xb s o k s' o' k' a b c d e f A n cp (((W.setCell ⟨q, 0, none⟩ x).setCell ⟨q, 1, none⟩ y).setCell ⟨q, 2, none⟩ z) :=
  ⟨below_three' h.bel (by omega), h.cfg.keeps (by omega) hz (keeps_set3 q _ _ _ W), h.met.keeps h1 (keeps_set3 q _ _ _ W), h.ref.keeps h2 (keeps_set3 q _ _ _ W)⟩
/-- What a method of the meter tells, and leaves. -/
def TellMC (x : Int) (w0 : World) (g xb : Nat) (s o k s' o' k' a b c d e f : Int) (A : Option Addr) (n cp : Nat) (y : Ending) (W' : World) : Prop := y = .returned (.int .i64 x) ∧ MCs w0 g xb s o k s' o' k' a b c d e f A n cp W' ∧ w0.heap.size < W'.heap.size
theorem spendMC {w0 : World} {g xb : Nat} {s o k s' o' k' a b c d e f : Int} {A : Option Addr} {n cp : Nat} {W : World} (z : Int) (h : MCs w0 g xb s o k s' o' k' a b c d e f A n cp W) (hz : w0.heap.size < W.heap.size) (h1 : g < xb) (h2 : w0.heap.size < g) (b1 : s ≤ 9223372036854775807) (b2 : z ≤ 9223372036854775807) :
    Calls Tryz.prog 11 #[.pointer (some ⟨g, 0, none⟩), .int .i64 z] W (TellMC (spendE s a z) w0 g xb (spendN s a z) o k s' o' k' a b c d e f A n cp) := by
  refine (spend_any g z s a o b c d k W h.met b1 b2).mono ?_
  rintro y W' ⟨rfl, hM, hb, hs, hk⟩
  exact ⟨rfl, ⟨h.bel.trans (hb.mono (by omega)), h.cfg.keeps (by omega) hz hk, hM, h.ref.keeps (by omega) hk⟩, by omega⟩
theorem emitMC {w0 : World} {g xb : Nat} {s o k s' o' k' a b c d e f : Int} {A : Option Addr} {n cp : Nat} {W : World} (x : Ev) (h : MCs w0 g xb s o k s' o' k' a b c d e f A n cp W) (hz : w0.heap.size < W.heap.size) (h1 : g < xb) (h2 : w0.heap.size < g) (hok : EvOk w0 x) (hxs : x.size ≤ 1099511627776) (hxn : x.n ≤ 1099511627776) (ho : 0 ≤ o) (ho2 : o ≤ 1099511627776) (hk : 0 ≤ k) (hk2 : k ≤ 1099511627776) :
    Calls Tryz.prog 13 #[.pointer (some ⟨g, 0, none⟩), .agg #[.int .i64 x.k, .string x.sp, .string x.lo, .slice x.A x.n x.c, .string x.tx]] W (TellMC (emitE o b x.size) w0 g xb s (emitO o b x.size) (emitD o b x.size k x.n) s' o' k' a b c d e f A n cp) := by
  refine (memit_any g x s a o b c d k W h.met (hok.below h.bel) hxs hxn ho ho2 hk hk2 h.met.lt).mono ?_
  rintro y W' ⟨rfl, hM, hb, hkk⟩
  exact ⟨rfl, ⟨h.bel.trans (hb.mono (by omega)), h.cfg.keeps (by omega) hz hkk, hM, h.ref.keeps (by omega) hkk⟩, by have := hkk.2; omega⟩
theorem spendN_b (s a z : Int) (h0 : 0 ≤ s) (h1 : s ≤ a) : 0 ≤ spendN s a z ∧ spendN s a z ≤ a := by
  have := addS_b s z
  unfold spendN
  split <;> omega
theorem emitO_b (o b : Int) (z : Nat) (h0 : 0 ≤ o) (h1 : o ≤ b) (h2 : 0 ≤ b) : 0 ≤ emitO o b z ∧ emitO o b z ≤ b := by
  unfold emitO
  split <;> omega
theorem emitD_b (o b : Int) (z : Nat) (k : Int) (m : Nat) (h0 : 0 ≤ k) : 0 ≤ emitD o b z k m ∧ emitD o b z k m ≤ k + 1 + m := by
  unfold emitD
  split <;> omega
theorem quietW {P : Program} {f : FuncId} {args : Array Value} {w : World} {n : Nat} {m : Int} (h : Calls P f args (w.drewN n) (DrewI m (w.drewN n))) :
    Calls P f args (w.drewN n) fun e w'' => e = .returned (.int .i64 m) ∧ ∃ k, w'' = w.drewN k := h.mono fun _ _ ⟨he, k, hk⟩ => ⟨he, n + k, by rw [hk]; simp⟩
theorem ckM_zero {a b c d e f : Int} {l : List ByteArray} (h : ckM a b c d e f l = 0) : 0 ≤ a ∧ a ≤ 1099511627776 ∧ 0 ≤ b ∧ b ≤ 1099511627776 := by
  unfold ckM at h
  have hn : ([a, b, c, d, e, f].any oddM) = false := by
    cases hx : [a, b, c, d, e, f].any oddM with
    | false => rfl
    | true => rw [hx] at h; cases h
  rw [List.any_eq_false] at hn
  have h1 := hn a (by simp)
  have h2 := hn b (by simp)
  simp [oddM] at h1 h2
  omega
set_option maxRecDepth 100000 in
set_option maxHeartbeats 80000000 in
theorem meterCounts_any (a b c d e f : Int) (A : Option Addr) (n cp : Nat) (l : List ByteArray) (A1 : Option Addr) (n1 cp1 : Nat) (l1 : List Int) (A2 : Option Addr) (n2 cp2 : Nat) (l2 : List Ev) (w : World) (m : Int) (hl : TsAt w A n l) (hn : n ≤ 9223372036854775807)
    (hl1 : IntsAt w A1 n1 l1) (hn1 : n1 ≤ 9223372036854775807) (hb1 : ∀ z ∈ l1, z ≤ 9223372036854775807) (hl2 : EvsAt w A2 n2 l2) (hs2 : evSum l2 ≤ 1048576) (hm : w.cell? ⟨0, 0, none⟩ = some (.int .i64 m)) :
    Calls Tryz.prog 3 #[cfgV a b c d e f A n cp, .slice A1 n1 cp1, .slice A2 n2 cp2] w (BelB true w) := by
  obtain ⟨W1, hW1⟩ : ∃ W, W = w.alloc (.cells (cfgA a b c d e f A n cp) 24) := ⟨_, rfl⟩
  have hB1 : Below w.heap.size w W1 := by rw [hW1]; exact (Below.refl _ _).alloc (Nat.le_refl _) _
  have hsz1 : W1.heap.size = w.heap.size + 1 := by rw [hW1]; simp
  have hz : w.heap.size < W1.heap.size := by omega
  have hq : Cfg7 w.heap.size a b c d e f A n cp W1 := by rw [hW1]; exact Cfg7.made w a b c d e f A n cp
  have hm1 := maxlen_below hm hB1
  have C0 := Lib.hid (great22_any A n cp l W1 (hl.below hB1) hn)
  have CL := Lib.hid (fun w' hm' => live26_any w' m hm')
  have HL1 := Lib.hid (hl.below hB1)
  have HI := Lib.hid hl1
  have HIB := Lib.hid hb1
  have HE := Lib.hid hl2
  have HM := Lib.hid hm
  have HM1 := Lib.hid hm1
  have HB1 := Lib.hid hB1
  have HW1 : Hid (w.alloc (.cells (cfgA a b c d e f A n cp) 24) = W1) := hW1.symm
  have HQ := Lib.hid hq
  clear hl hm hW1 hB1 hsz1 hm1 hq hl1 hl2 hb1
  obtain ⟨q0, q1, q2, q3, q4, q5, q6⟩ := HQ.out
  unfold cfgV at *
  unfold cfgA at *
  go_enter Tryz.func3, Tryz.ntmps3
  go_wp2_with fail
  rw [HW1.out]
  refine C0.out.mono ?_
  rintro x0 w0 ⟨bb, rfl, hw0, hsm⟩
  subst hw0
  cases bb with
  | true =>
    go_wp2_with fail
    go_at_call 8
    refine (CL.out _ HM1.out).mono ?_
    rintro e0 w' ⟨rfl, hb⟩
    go_wp2
    go_ret
    exact ⟨rfl, HB1.out.trans (hb.mono HB1.out.size)⟩
  | false =>
    obtain ⟨h80, h300⟩ := hsm rfl
    have hlen := HL1.out.1
    have HS : Hid (Shorts l) := fun y hy => Nat.le_trans (h300 y hy) (by decide)
    have hnn : n ≤ 80 := by omega
    clear h80 h300 hlen hsm C0
    have C1 := rmcheck_any a b c d e f A n cp l W1 HL1.out (by omega) HS.out
    have C2 := fun w' hl' hm' => mnew_any a b c d e f A n cp l w' m hl' (by omega) HS.out hm'
    have HCK := Lib.hid (@ckM_zero a b c d e f l)
    generalize ckM a b c d e f l = k at C1 C2 HCK
    unfold cfgV cfgA at C1 C2
    have C1 := Lib.hid C1
    have C2 := Lib.hid C2
    go_wp2_with fail
    go_at_call 6
    refine C1.out.mono ?_
    rintro x0 w2 ⟨rfl, hb2⟩
    have HB2 := Lib.hid (HB1.out.trans (hb2.mono HB1.out.size))
    have HB12 := Lib.hid hb2
    have HM2 := Lib.hid (maxlen_below HM1.out hb2)
    have HL2 := Lib.hid (HL1.out.below hb2)
    clear hb2 C1 q0 q1 q2 q3 q4 q5 q6
    by_cases hk : k = 0
    · subst hk
      obtain ⟨ha0, ha1, hbb0, hbb1⟩ := HCK.out rfl
      have CG := great_any A2 n2 cp2 l2 w2 (HE.out.below HB2.out) (by omega)
      obtain ⟨gb, hgb⟩ : ∃ gb, gb = greatB n2 l2 := ⟨_, rfl⟩
      rw [← hgb] at CG
      have CG := Lib.hid CG
      go_wp2_with fail
      go_at_call 7
      refine CG.out.mono ?_
      rintro x0 w3 ⟨rfl, hb3⟩
      have HB3 := Lib.hid (HB2.out.trans (hb3.mono HB2.out.size))
      have HB13 := Lib.hid (HB12.out.trans (hb3.mono HB12.out.size))
      have HM3 := Lib.hid (maxlen_below HM2.out hb3)
      have HL3 := Lib.hid (HL2.out.below hb3)
      clear hb3 CG
      cases gb with
      | true =>
        clear hgb
        go_wp2_with fail
        go_at_call 8
        refine (CL.out _ HM3.out).mono ?_
        rintro e0 w' ⟨rfl, hb⟩
        go_wp2
        go_ret
        exact ⟨rfl, HB3.out.trans (hb.mono HB3.out.size)⟩
      | false =>
        have hg2 : n2 ≤ 100 ∧ evSum l2 ≤ 5000 := by
          unfold greatB at hgb
          have := hgb.symm
          simp at this
          omega
        obtain ⟨hn2, hev⟩ := hg2
        clear hgb
        obtain ⟨q0, q1, q2, q3, q4, q5, q6⟩ := HQ.out.below hz HB13.out
        by_cases h50 : 50 < n1
        · have t50 : (50 : Int) < (n1 : Int) := by omega
          go_wp2_with fail
          go_at_call 8
          refine (CL.out _ HM3.out).mono ?_
          rintro e0 w' ⟨rfl, hb⟩
          go_wp2
          go_ret
          exact ⟨rfl, HB3.out.trans (hb.mono HB3.out.size)⟩
        · have t50 : ¬ (50 : Int) < (n1 : Int) := by omega
          go_wp2_with fail
          go_at_call 9
          refine (C2.out w3 HL3.out HM3.out).mono ?_
          rintro x0 w4 ⟨hb4, ⟨h, -⟩ | ⟨-, g, rfl, hg, hMB⟩⟩
          · exact absurd rfl h
          have HB4 := Lib.hid (HB3.out.trans (hb4.mono HB3.out.size))
          have HB14 := Lib.hid (HB13.out.trans (hb4.mono HB13.out.size))
          have HM4 := Lib.hid (maxlen_below HM3.out hb4)
          have HQ4 := Lib.hid (HQ.out.below hz HB14.out)
          have HMB := Lib.hid hMB
          have hwg : w.heap.size < g := by have := HB13.out.size; omega
          have hg4 : g < w4.heap.size := hMB.lt
          clear hb4 hMB C2 q0 q1 q2 q3 q4 q5 q6 hg
          have HMC : Hid (MCs w g w4.heap.size 0 0 0 0 0 0 a b c d e f A n cp (w4.alloc (.cells #[.int .i64 0, .int .i64 0, .int .i64 0] 36))) :=
            ⟨HB4.out.alloc HB4.out.size _, HQ4.out.below (by omega) ((Below.refl _ _).alloc (Nat.le_refl _) _), HMB.out.below ((Below.refl _ _).alloc (Nat.le_refl _) _), heap_alloc_new _ _⟩
          obtain ⟨xb, hxb⟩ : ∃ xb, xb = w4.heap.size := ⟨_, rfl⟩
          go_wp2
          rw [← hxb]
          rw [← hxb] at HMC
          generalize w4.alloc (.cells #[.int .i64 0, .int .i64 0, .int .i64 0] 36) = W5 at HMC ⊢
          have hxg : g < xb := by omega
          clear HM4 HQ4 HMB HB4 HB14 hxb
          go_loopg [10] 202 (fun gh v10 wr => ∃ (k : Nat) (sp o dn : Int), gh + k = 202 ∧ v10 = .int .i64 k ∧ 0 ≤ sp ∧ sp ≤ a ∧ 0 ≤ o ∧ o ≤ b ∧ 0 ≤ dn ∧ dn ≤ 6000 * k ∧ Hid (MCs w g xb sp o dn sp o dn a b c d e f A n cp wr))
          case atStart => exact ⟨0, 0, 0, 0, rfl, rfl, by omega, by omega, by omega, by omega, by omega, by omega, HMC.out⟩
          case round =>
            obtain ⟨k, sp, o, dn, hgk, rfl, hp0, hp1, ho0, ho1, hd0, hd1, HC⟩ := hrel
            by_cases h1 : k < n1
            · by_cases h2 : k < n2
              · have b3 : (k : Int) < (n2 : Int) := by omega
                obtain ⟨a1, z, rfl, hz1, hab1, gz⟩ := HI.out.2 k h1
                have hzb := HIB.out z (List.mem_of_getElem? hz1)
                have CS := rspend_any sp o dn a b c d e f A n cp z
                unfold cfgV cfgA at CS
                have CS := Lib.hid (fun w' (_ : Below wr.heap.size wr w') => CS w' (by omega) hzb)
                have b0 : (0 : Int) ≤ (k : Int) := by omega
                have b1 : (k : Int) < (n1 : Int) := by omega
                have GZ := Lib.hid gz
                clear hz1 gz
                have gz := GZ.out
                clear gz
                have hzrw6 : w.heap.size < wr.heap.size := by have := HC.out.ref.lt; omega
                have HKAw6 : Hid (∀ W, Below wr.heap.size wr W → W.cell? ⟨w.heap.size, 0, none⟩ = some (.int .i64 a) ∧ W.cell? ⟨w.heap.size, 1, none⟩ = some (.int .i64 b) ∧ W.cell? ⟨w.heap.size, 2, none⟩ = some (.int .i64 c) ∧ W.cell? ⟨w.heap.size, 3, none⟩ = some (.int .i64 d) ∧ W.cell? ⟨w.heap.size, 4, none⟩ = some (.int .i64 e) ∧ W.cell? ⟨w.heap.size, 5, none⟩ = some (.int .i64 f) ∧ W.cell? ⟨w.heap.size, 6, none⟩ = some (.slice A n cp) ∧ W.cell? ⟨xb, 0, none⟩ = some (.int .i64 sp) ∧ W.cell? ⟨xb, 1, none⟩ = some (.int .i64 o) ∧ W.cell? ⟨xb, 2, none⟩ = some (.int .i64 dn) ∧ W.cell? (a1.add k) = some (.int .i64 z)) := (fun W hW => by have HC7 := HC.out.below hzrw6 hW; obtain ⟨v0, v1, v2, v3, v4, v5, v6⟩ := HC7.cfg; obtain ⟨u0, u1, u2, -, -, -⟩ := HC7.ref.cells; exact ⟨v0, v1, v2, v3, v4, v5, v6, u0, u1, u2, (HC7.bel.cell (p := a1.add k) (by rw [addBlockT]; exact hab1)).trans GZ.out⟩)
                have QS := HKAw6.out wr (Below.refl _ _)
                have HBAw6 : Hid (∀ X, Below wr.heap.size wr (wr.alloc X).drew) := fun X => ((Below.refl wr.heap.size wr).alloc (Nat.le_refl _) X).trans (below_drew _ _)
                obtain ⟨q0, q1, q2, q3, q4, q5, q6, r0, r1, r2, gg⟩ := QS
                go_wp2_with fail
                go_region_held3 (fun W => W.cell? ⟨w.heap.size, 0, none⟩ = some (.int .i64 a) ∧ W.cell? ⟨w.heap.size, 1, none⟩ = some (.int .i64 b) ∧ W.cell? ⟨w.heap.size, 2, none⟩ = some (.int .i64 c) ∧ W.cell? ⟨w.heap.size, 3, none⟩ = some (.int .i64 d) ∧ W.cell? ⟨w.heap.size, 4, none⟩ = some (.int .i64 e) ∧ W.cell? ⟨w.heap.size, 5, none⟩ = some (.int .i64 f) ∧ W.cell? ⟨w.heap.size, 6, none⟩ = some (.slice A n cp) ∧ W.cell? ⟨xb, 0, none⟩ = some (.int .i64 sp) ∧ W.cell? ⟨xb, 1, none⟩ = some (.int .i64 o) ∧ W.cell? ⟨xb, 2, none⟩ = some (.int .i64 dn) ∧ W.cell? (a1.add k) = some (.int .i64 z)) (first | exact HKAw6.out _ HB6 | exact HKAw6.out _ (HB6.alloc HB6.size _) | exact HKAw6.out _ (below_three' HB6 (Nat.le_refl _)) | exact HKAw6.out _ (HBAw6.out _) | exact HKAw6.out _ ((Below.refl wr.heap.size wr).alloc (Nat.le_refl _) _) | exact HKAw6.out _ (below_drew _ _) | exact HKAw6.out _ (Below.refl _ _))
                  (first
                  | (go_at_call 10; refine (CS.out wr.drew (below_drew _ _)).mono ?_; rintro y w6 ⟨rfl, hb6⟩; have HB6 : Below wr.heap.size wr w6 := (below_drew _ _).trans hb6; clear hb6)
                  | (go_at_call 10; refine (CS.out (wr.alloc (.cells #[.int .i64 0, .int .i64 0, .int .i64 0] 36)).drew (HBAw6.out _)).mono ?_; rintro y w6 ⟨rfl, hb6⟩; have HB6 : Below wr.heap.size wr w6 := (HBAw6.out _).trans (hb6.mono (HBAw6.out _).size); have hY : RBlk wr.heap.size 0 0 0 w6 := (show RBlk wr.heap.size 0 0 0 (wr.alloc (.cells #[.int .i64 0, .int .i64 0, .int .i64 0] 36)).drew from heap_alloc_new _ _).below hb6; obtain ⟨y0, y1, y2, yf0, yf1, yf2⟩ := hY.cells; clear hb6))
                all_goals have HC6 := Lib.hid (HC.out.below hzrw6 HB6)
                all_goals have hz6 : w.heap.size < w6.heap.size := Nat.lt_of_lt_of_le hzrw6 HB6.size
                all_goals have hxr : xb < wr.heap.size := HC.out.ref.lt
                all_goals have hgr : g < wr.heap.size := HC.out.met.lt
                all_goals have hr6 : wr.heap.size ≤ w6.heap.size := HB6.size
                all_goals clear q0 q1 q2 q3 q4 q5 q6 r0 r1 r2 gg HKAw6 HBAw6
                · have hyx : ¬ w6.heap.size = xb := by omega
                  have hyx2 : ¬ xb = w6.heap.size := by omega
                  have HC7 := HC6.out.below hz6 ((Below.refl w6.heap.size w6).alloc (Nat.le_refl _) (.cells #[.int .i64 (spendN sp a z), .int .i64 o, .int .i64 dn] 36))
                  have hY7 : RBlk w6.heap.size (spendN sp a z) o dn (w6.alloc (.cells #[.int .i64 (spendN sp a z), .int .i64 o, .int .i64 dn] 36)) := heap_alloc_new _ _
                  generalize w6.alloc (.cells #[.int .i64 (spendN sp a z), .int .i64 o, .int .i64 dn] 36) = W7 at *
                  obtain ⟨y0, y1, y2, yf0, yf1, yf2⟩ := hY7.cells
                  obtain ⟨r0, r1, r2, f0, f1, f2⟩ := HC7.ref.cells
                  have hzw7 : w.heap.size < W7.heap.size := by have := hY7.lt; omega
                  have H7 := Lib.hid HC7
                  clear HC7 hY7 HC6 HB6 hr6 hz6 hxr hgr
                  go_upto_region 13 with (fail)
                  have HC8 := H7.out.setref hzw7 hxg hwg (spendN sp a z) o dn
                  have hz8 : w.heap.size < (((W7.setCell ⟨xb, 0, none⟩ (.int .i64 (spendN sp a z))).setCell ⟨xb, 1, none⟩ (.int .i64 o)).setCell ⟨xb, 2, none⟩ (.int .i64 dn)).heap.size := by simpa using hzw7
                  generalize ((W7.setCell ⟨xb, 0, none⟩ (.int .i64 (spendN sp a z))).setCell ⟨xb, 1, none⟩ (.int .i64 o)).setCell ⟨xb, 2, none⟩ (.int .i64 dn) = w68 at *
                  have Hw68 := Lib.hid HC8
                  clear HC8 H7 y0 y1 y2 yf0 yf1 yf2 r0 r1 r2 f0 f1 f2 hzw7 hyx hyx2
                  have g8 := (Hw68.out.bel.cell (p := a1.add k) (by rw [addBlockT]; exact hab1)).trans GZ.out
                  have hsb := spendN_b sp a z hp0 hp1
                  go_wp2_with fail
                  go_at_call 11
                  refine (spendMC z Hw68.out hz8 hxg hwg (by omega) hzb).mono ?_
                  rintro y w9 ⟨rfl, HM9, hz9⟩
                  have H9 := Lib.hid HM9
                  clear HM9 g8 hz8 Hw68
                  generalize spendN sp a z = sp2 at *
                  generalize spendE sp a z = ek at *
                  obtain ⟨a2, x, rfl, hx2, hev, hok⟩ := HE.out.2 k h2
                  have hxa := evSum_mem hx2
                  have hxall : x.all = x.size + x.n := rfl
                  have hxs : x.size ≤ 5000 := by omega
                  have hxn : x.n ≤ 5000 := by omega
                  have HEV : Hid (∀ W, Below w.heap.size w W → W.cell? (a2.add (k * 5)) = some (.int .i64 x.k) ∧ W.cell? ⟨(a2.add (k * 5)).block, (a2.add (k * 5)).off + 1, none⟩ = some (.string x.sp) ∧ W.cell? ⟨(a2.add (k * 5)).block, (a2.add (k * 5)).off + 2, none⟩ = some (.string x.lo) ∧ W.cell? ⟨(a2.add (k * 5)).block, (a2.add (k * 5)).off + 3, none⟩ = some (.slice x.A x.n x.c) ∧ W.cell? ⟨(a2.add (k * 5)).block, (a2.add (k * 5)).off + 4, none⟩ = some (.string x.tx)) := fun W hW => by
                    obtain ⟨h0, e0, e1, e2, e3, e4⟩ := hev.below hW hev.1
                    exact ⟨e0, e1, e2, e3, e4⟩
                  have CE := remit_any sp2 o dn a b c d e f A n cp x
                  unfold cfgV cfgA at CE
                  have CE := Lib.hid (fun w' (hb : Below w9.heap.size w9 w') => CE w' (hok.below (H9.out.bel.trans (hb.mono H9.out.bel.size))) (by omega) (by omega) ho0 (by omega) hd0 (by omega))
                  have c0 : (0 : Int) ≤ (k : Int) := by omega
                  clear hev hx2 hxa hxall
                  have hzrw9b : w.heap.size < w9.heap.size := by have := H9.out.ref.lt; omega
                  have HKAw9b : Hid (∀ W, Below w9.heap.size w9 W → W.cell? ⟨w.heap.size, 0, none⟩ = some (.int .i64 a) ∧ W.cell? ⟨w.heap.size, 1, none⟩ = some (.int .i64 b) ∧ W.cell? ⟨w.heap.size, 2, none⟩ = some (.int .i64 c) ∧ W.cell? ⟨w.heap.size, 3, none⟩ = some (.int .i64 d) ∧ W.cell? ⟨w.heap.size, 4, none⟩ = some (.int .i64 e) ∧ W.cell? ⟨w.heap.size, 5, none⟩ = some (.int .i64 f) ∧ W.cell? ⟨w.heap.size, 6, none⟩ = some (.slice A n cp) ∧ W.cell? ⟨xb, 0, none⟩ = some (.int .i64 sp2) ∧ W.cell? ⟨xb, 1, none⟩ = some (.int .i64 o) ∧ W.cell? ⟨xb, 2, none⟩ = some (.int .i64 dn) ∧ W.cell? (a2.add (k * 5)) = some (.int .i64 x.k) ∧ W.cell? ⟨(a2.add (k * 5)).block, (a2.add (k * 5)).off + 1, none⟩ = some (.string x.sp) ∧ W.cell? ⟨(a2.add (k * 5)).block, (a2.add (k * 5)).off + 2, none⟩ = some (.string x.lo) ∧ W.cell? ⟨(a2.add (k * 5)).block, (a2.add (k * 5)).off + 3, none⟩ = some (.slice x.A x.n x.c) ∧ W.cell? ⟨(a2.add (k * 5)).block, (a2.add (k * 5)).off + 4, none⟩ = some (.string x.tx)) := (fun W hW => by have HC7 := H9.out.below hzrw9b hW; obtain ⟨v0, v1, v2, v3, v4, v5, v6⟩ := HC7.cfg; obtain ⟨u0, u1, u2, -, -, -⟩ := HC7.ref.cells; exact ⟨v0, v1, v2, v3, v4, v5, v6, u0, u1, u2, HEV.out W HC7.bel⟩)
                  have QS := HKAw9b.out w9 (Below.refl _ _)
                  have HBAw9b : Hid (∀ X, Below w9.heap.size w9 (w9.alloc X).drew) := fun X => ((Below.refl w9.heap.size w9).alloc (Nat.le_refl _) X).trans (below_drew _ _)
                  obtain ⟨q0, q1, q2, q3, q4, q5, q6, r0, r1, r2, gg⟩ := QS
                  go_wp2_with fail
                  go_region_held3 (fun W => W.cell? ⟨w.heap.size, 0, none⟩ = some (.int .i64 a) ∧ W.cell? ⟨w.heap.size, 1, none⟩ = some (.int .i64 b) ∧ W.cell? ⟨w.heap.size, 2, none⟩ = some (.int .i64 c) ∧ W.cell? ⟨w.heap.size, 3, none⟩ = some (.int .i64 d) ∧ W.cell? ⟨w.heap.size, 4, none⟩ = some (.int .i64 e) ∧ W.cell? ⟨w.heap.size, 5, none⟩ = some (.int .i64 f) ∧ W.cell? ⟨w.heap.size, 6, none⟩ = some (.slice A n cp) ∧ W.cell? ⟨xb, 0, none⟩ = some (.int .i64 sp2) ∧ W.cell? ⟨xb, 1, none⟩ = some (.int .i64 o) ∧ W.cell? ⟨xb, 2, none⟩ = some (.int .i64 dn) ∧ W.cell? (a2.add (k * 5)) = some (.int .i64 x.k) ∧ W.cell? ⟨(a2.add (k * 5)).block, (a2.add (k * 5)).off + 1, none⟩ = some (.string x.sp) ∧ W.cell? ⟨(a2.add (k * 5)).block, (a2.add (k * 5)).off + 2, none⟩ = some (.string x.lo) ∧ W.cell? ⟨(a2.add (k * 5)).block, (a2.add (k * 5)).off + 3, none⟩ = some (.slice x.A x.n x.c) ∧ W.cell? ⟨(a2.add (k * 5)).block, (a2.add (k * 5)).off + 4, none⟩ = some (.string x.tx)) (first | exact HKAw9b.out _ HB6 | exact HKAw9b.out _ (HB6.alloc HB6.size _) | exact HKAw9b.out _ (below_three' HB6 (Nat.le_refl _)) | exact HKAw9b.out _ (HBAw9b.out _) | exact HKAw9b.out _ ((Below.refl w9.heap.size w9).alloc (Nat.le_refl _) _) | exact HKAw9b.out _ (below_drew _ _) | exact HKAw9b.out _ (Below.refl _ _))
                    (first
                    | (go_at_call 12; refine (CE.out w9.drew (below_drew _ _)).mono ?_; rintro y w9b ⟨rfl, hb6⟩; have HB6 : Below w9.heap.size w9 w9b := (below_drew _ _).trans hb6; clear hb6)
                    | (go_at_call 12; refine (CE.out (w9.alloc (.cells #[.int .i64 0, .int .i64 0, .int .i64 0] 36)).drew (HBAw9b.out _)).mono ?_; rintro y w9b ⟨rfl, hb6⟩; have HB6 : Below w9.heap.size w9 w9b := (HBAw9b.out _).trans (hb6.mono (HBAw9b.out _).size); have hY : RBlk w9.heap.size 0 0 0 w9b := (show RBlk w9.heap.size 0 0 0 (w9.alloc (.cells #[.int .i64 0, .int .i64 0, .int .i64 0] 36)).drew from heap_alloc_new _ _).below hb6; obtain ⟨y0, y1, y2, yf0, yf1, yf2⟩ := hY.cells; clear hb6))
                  all_goals have HC6 := Lib.hid (H9.out.below hzrw9b HB6)
                  all_goals have hz6 : w.heap.size < w9b.heap.size := Nat.lt_of_lt_of_le hzrw9b HB6.size
                  all_goals have hxr : xb < w9.heap.size := H9.out.ref.lt
                  all_goals have hgr : g < w9.heap.size := H9.out.met.lt
                  all_goals have hr6 : w9.heap.size ≤ w9b.heap.size := HB6.size
                  all_goals clear q0 q1 q2 q3 q4 q5 q6 r0 r1 r2 gg HKAw9b HBAw9b
                  · have hyx : ¬ w9b.heap.size = xb := by omega
                    have hyx2 : ¬ xb = w9b.heap.size := by omega
                    have HC7 := HC6.out.below hz6 ((Below.refl w9b.heap.size w9b).alloc (Nat.le_refl _) (.cells #[.int .i64 sp2, .int .i64 (emitO o b x.size), .int .i64 (emitD o b x.size dn x.n)] 36))
                    have hY7 : RBlk w9b.heap.size sp2 (emitO o b x.size) (emitD o b x.size dn x.n) (w9b.alloc (.cells #[.int .i64 sp2, .int .i64 (emitO o b x.size), .int .i64 (emitD o b x.size dn x.n)] 36)) := heap_alloc_new _ _
                    generalize w9b.alloc (.cells #[.int .i64 sp2, .int .i64 (emitO o b x.size), .int .i64 (emitD o b x.size dn x.n)] 36) = W7 at *
                    obtain ⟨y0, y1, y2, yf0, yf1, yf2⟩ := hY7.cells
                    obtain ⟨r0, r1, r2, f0, f1, f2⟩ := HC7.ref.cells
                    have hzw7 : w.heap.size < W7.heap.size := by have := hY7.lt; omega
                    have H7 := Lib.hid HC7
                    clear HC7 hY7 HC6 HB6 hr6 hz6 hxr hgr
                    go_upto_region 18 with (fail)
                    have HC8 := H7.out.setref hzw7 hxg hwg sp2 (emitO o b x.size) (emitD o b x.size dn x.n)
                    have hz8 : w.heap.size < (((W7.setCell ⟨xb, 0, none⟩ (.int .i64 sp2)).setCell ⟨xb, 1, none⟩ (.int .i64 (emitO o b x.size))).setCell ⟨xb, 2, none⟩ (.int .i64 (emitD o b x.size dn x.n))).heap.size := by simpa using hzw7
                    generalize ((W7.setCell ⟨xb, 0, none⟩ (.int .i64 sp2)).setCell ⟨xb, 1, none⟩ (.int .i64 (emitO o b x.size))).setCell ⟨xb, 2, none⟩ (.int .i64 (emitD o b x.size dn x.n)) = w9b8 at *
                    have Hw9b8 := Lib.hid HC8
                    clear HC8 H7 y0 y1 y2 yf0 yf1 yf2 r0 r1 r2 f0 f1 f2 hzw7 hyx hyx2
                    have hob := emitO_b o b x.size ho0 ho1 (by omega)
                    have hdb := emitD_b o b x.size dn x.n hd0
                    have HM0 := Lib.hid (Hw9b8.out.below hz8 (below_drew _ _))
                    have hzd : w.heap.size < w9b8.drew.heap.size := hz8
                    obtain ⟨g0, g1, g2, g3, g4⟩ := HEV.out w9b8 Hw9b8.out.bel
                    go_wp2_with fail
                    go_region_held3 (fun W => W.cell? (a2.add (k * 5)) = some (.int .i64 x.k) ∧ W.cell? ⟨(a2.add (k * 5)).block, (a2.add (k * 5)).off + 1, none⟩ = some (.string x.sp) ∧ W.cell? ⟨(a2.add (k * 5)).block, (a2.add (k * 5)).off + 2, none⟩ = some (.string x.lo) ∧ W.cell? ⟨(a2.add (k * 5)).block, (a2.add (k * 5)).off + 3, none⟩ = some (.slice x.A x.n x.c) ∧ W.cell? ⟨(a2.add (k * 5)).block, (a2.add (k * 5)).off + 4, none⟩ = some (.string x.tx)) (first | exact HEV.out _ B13 | exact HEV.out _ B12 | exact HEV.out _ HM11.bel | exact HEV.out _ HM0.out.bel | exact HEV.out _ Hw9b8.out.bel)
                      (first
                      | (go_at_call 13; refine (emitMC x HM0.out hzd hxg hwg hok (by omega) (by omega) ho0 (by omega) hd0 (by omega)).mono ?_; rintro y w11 ⟨rfl, HM11, hz11⟩)
                      | (go_at_call 14; refine (mbytes_any x w11 (hok.below HM11.bel) (by omega)).mono ?_; rintro y w12 ⟨rfl, hb12⟩; have B12 : Below w.heap.size w w12 := HM11.bel.trans (hb12.mono HM11.bel.size))
                      | (go_at_call 15; refine (evBytes_any x w12 (hok.below B12) (by omega)).mono ?_; rintro y w13 ⟨rfl, hb13⟩; have B13 : Below w.heap.size w w13 := B12.trans (hb13.mono B12.size)))
                    have H13 := Lib.hid ((HM11.below hz11 hb12).below (Nat.lt_of_lt_of_le hz11 hb12.size) hb13)
                    have hz13 : w.heap.size < w13.heap.size := Nat.lt_of_lt_of_le (Nat.lt_of_lt_of_le hz11 hb12.size) hb13.size
                    clear hb12 hb13 B12 B13 HM11 hz11 Hw9b8 hz8 hzd HM0 g0 g1 g2 g3 g4
                    generalize emitO o b x.size = o2 at *
                    generalize emitD o b x.size dn x.n = dn2 at *
                    have ME := H13.out.met
                    have REc := H13.out.ref.cells
                    have CFc := H13.out.cfg
                    obtain ⟨r0, r1, r2, -, -, -⟩ := REc
                    obtain ⟨q0, q1, -, -, -, -, -⟩ := CFc
                    have hws : IntKind.i64.wrap (sp2 + dn2) = sp2 + dn2 := IntWalk.i64_in _ (by omega)
                    have has : addS sp2 dn2 = sp2 + dn2 := addS_small _ _ (by omega) (by omega) (by omega)
                    have CW := Lib.hid (fun w' (h : MBlk g sp2 a o2 b c d dn2 w') => has ▸ work_any g sp2 a o2 b c d dn2 w' h (by omega) (by omega))
                    have dA : decide (a < sp2) = false := decide_eq_false (by omega)
                    have dB : decide (b < o2) = false := decide_eq_false (by omega)
                    have HME := Lib.hid ME
                    have hdn2 : dn2 ≤ 6000 * ((k : Int) + 1) := by omega
                    clear has ME
                    go_wp2_with fail
                    go_quiet ((first | (go_at_call 16; exact quietM (spent_any g sp2 a o2 b c d dn2 _ HME.out)) | (go_at_call 17; exact quietM (mout_any g sp2 a o2 b c d dn2 _ HME.out)) | (go_at_call 18; exact quietW (CW.out _ HME.out))))
                    go_wp2
                    go_roundg (gk - 1)
                    case measure => omega
                    case rel => exact ⟨k + 1, sp2, o2, dn2, by omega, by go_num, by omega, by omega, by omega, by omega, by omega, by push_cast; omega, H13.out.below hz13 (below_drewN _ _ _)⟩
                  · have hyx : ¬ w9.heap.size = xb := by omega
                    have hyx2 : ¬ xb = w9.heap.size := by omega
                    have HC7 := HC6.out.setother hz6 w9.heap.size (by omega) (by omega) (by omega) (.int .i64 sp2) (.int .i64 (emitO o b x.size)) (.int .i64 (emitD o b x.size dn x.n))
                    have hY7 := hY.set3 (s' := sp2) (o' := (emitO o b x.size)) (k' := (emitD o b x.size dn x.n))
                    clear hY y0 y1 y2 yf0 yf1 yf2
                    generalize ((w9b.setCell ⟨w9.heap.size, 0, none⟩ (.int .i64 sp2)).setCell ⟨w9.heap.size, 1, none⟩ (.int .i64 (emitO o b x.size))).setCell ⟨w9.heap.size, 2, none⟩ (.int .i64 (emitD o b x.size dn x.n)) = W7 at *
                    obtain ⟨y0, y1, y2, yf0, yf1, yf2⟩ := hY7.cells
                    obtain ⟨r0, r1, r2, f0, f1, f2⟩ := HC7.ref.cells
                    have hzw7 : w.heap.size < W7.heap.size := by have := hY7.lt; omega
                    have H7 := Lib.hid HC7
                    clear HC7 hY7 HC6 HB6 hr6 hz6 hxr hgr
                    go_upto_region 18 with (fail)
                    have HC8 := H7.out.setref hzw7 hxg hwg sp2 (emitO o b x.size) (emitD o b x.size dn x.n)
                    have hz8 : w.heap.size < (((W7.setCell ⟨xb, 0, none⟩ (.int .i64 sp2)).setCell ⟨xb, 1, none⟩ (.int .i64 (emitO o b x.size))).setCell ⟨xb, 2, none⟩ (.int .i64 (emitD o b x.size dn x.n))).heap.size := by simpa using hzw7
                    generalize ((W7.setCell ⟨xb, 0, none⟩ (.int .i64 sp2)).setCell ⟨xb, 1, none⟩ (.int .i64 (emitO o b x.size))).setCell ⟨xb, 2, none⟩ (.int .i64 (emitD o b x.size dn x.n)) = w9b8 at *
                    have Hw9b8 := Lib.hid HC8
                    clear HC8 H7 y0 y1 y2 yf0 yf1 yf2 r0 r1 r2 f0 f1 f2 hzw7 hyx hyx2
                    have hob := emitO_b o b x.size ho0 ho1 (by omega)
                    have hdb := emitD_b o b x.size dn x.n hd0
                    have HM0 := Lib.hid (Hw9b8.out.below hz8 (below_drew _ _))
                    have hzd : w.heap.size < w9b8.drew.heap.size := hz8
                    obtain ⟨g0, g1, g2, g3, g4⟩ := HEV.out w9b8 Hw9b8.out.bel
                    go_wp2_with fail
                    go_region_held3 (fun W => W.cell? (a2.add (k * 5)) = some (.int .i64 x.k) ∧ W.cell? ⟨(a2.add (k * 5)).block, (a2.add (k * 5)).off + 1, none⟩ = some (.string x.sp) ∧ W.cell? ⟨(a2.add (k * 5)).block, (a2.add (k * 5)).off + 2, none⟩ = some (.string x.lo) ∧ W.cell? ⟨(a2.add (k * 5)).block, (a2.add (k * 5)).off + 3, none⟩ = some (.slice x.A x.n x.c) ∧ W.cell? ⟨(a2.add (k * 5)).block, (a2.add (k * 5)).off + 4, none⟩ = some (.string x.tx)) (first | exact HEV.out _ B13 | exact HEV.out _ B12 | exact HEV.out _ HM11.bel | exact HEV.out _ HM0.out.bel | exact HEV.out _ Hw9b8.out.bel)
                      (first
                      | (go_at_call 13; refine (emitMC x HM0.out hzd hxg hwg hok (by omega) (by omega) ho0 (by omega) hd0 (by omega)).mono ?_; rintro y w11 ⟨rfl, HM11, hz11⟩)
                      | (go_at_call 14; refine (mbytes_any x w11 (hok.below HM11.bel) (by omega)).mono ?_; rintro y w12 ⟨rfl, hb12⟩; have B12 : Below w.heap.size w w12 := HM11.bel.trans (hb12.mono HM11.bel.size))
                      | (go_at_call 15; refine (evBytes_any x w12 (hok.below B12) (by omega)).mono ?_; rintro y w13 ⟨rfl, hb13⟩; have B13 : Below w.heap.size w w13 := B12.trans (hb13.mono B12.size)))
                    have H13 := Lib.hid ((HM11.below hz11 hb12).below (Nat.lt_of_lt_of_le hz11 hb12.size) hb13)
                    have hz13 : w.heap.size < w13.heap.size := Nat.lt_of_lt_of_le (Nat.lt_of_lt_of_le hz11 hb12.size) hb13.size
                    clear hb12 hb13 B12 B13 HM11 hz11 Hw9b8 hz8 hzd HM0 g0 g1 g2 g3 g4
                    generalize emitO o b x.size = o2 at *
                    generalize emitD o b x.size dn x.n = dn2 at *
                    have ME := H13.out.met
                    have REc := H13.out.ref.cells
                    have CFc := H13.out.cfg
                    obtain ⟨r0, r1, r2, -, -, -⟩ := REc
                    obtain ⟨q0, q1, -, -, -, -, -⟩ := CFc
                    have hws : IntKind.i64.wrap (sp2 + dn2) = sp2 + dn2 := IntWalk.i64_in _ (by omega)
                    have has : addS sp2 dn2 = sp2 + dn2 := addS_small _ _ (by omega) (by omega) (by omega)
                    have CW := Lib.hid (fun w' (h : MBlk g sp2 a o2 b c d dn2 w') => has ▸ work_any g sp2 a o2 b c d dn2 w' h (by omega) (by omega))
                    have dA : decide (a < sp2) = false := decide_eq_false (by omega)
                    have dB : decide (b < o2) = false := decide_eq_false (by omega)
                    have HME := Lib.hid ME
                    have hdn2 : dn2 ≤ 6000 * ((k : Int) + 1) := by omega
                    clear has ME
                    go_wp2_with fail
                    go_quiet ((first | (go_at_call 16; exact quietM (spent_any g sp2 a o2 b c d dn2 _ HME.out)) | (go_at_call 17; exact quietM (mout_any g sp2 a o2 b c d dn2 _ HME.out)) | (go_at_call 18; exact quietW (CW.out _ HME.out))))
                    go_wp2
                    go_roundg (gk - 1)
                    case measure => omega
                    case rel => exact ⟨k + 1, sp2, o2, dn2, by omega, by go_num, by omega, by omega, by omega, by omega, by omega, by push_cast; omega, H13.out.below hz13 (below_drewN _ _ _)⟩
                · have hyx : ¬ wr.heap.size = xb := by omega
                  have hyx2 : ¬ xb = wr.heap.size := by omega
                  have HC7 := HC6.out.setother hz6 wr.heap.size (by omega) (by omega) (by omega) (.int .i64 (spendN sp a z)) (.int .i64 o) (.int .i64 dn)
                  have hY7 := hY.set3 (s' := (spendN sp a z)) (o' := o) (k' := dn)
                  clear hY y0 y1 y2 yf0 yf1 yf2
                  generalize ((w6.setCell ⟨wr.heap.size, 0, none⟩ (.int .i64 (spendN sp a z))).setCell ⟨wr.heap.size, 1, none⟩ (.int .i64 o)).setCell ⟨wr.heap.size, 2, none⟩ (.int .i64 dn) = W7 at *
                  obtain ⟨y0, y1, y2, yf0, yf1, yf2⟩ := hY7.cells
                  obtain ⟨r0, r1, r2, f0, f1, f2⟩ := HC7.ref.cells
                  have hzw7 : w.heap.size < W7.heap.size := by have := hY7.lt; omega
                  have H7 := Lib.hid HC7
                  clear HC7 hY7 HC6 HB6 hr6 hz6 hxr hgr
                  go_upto_region 13 with (fail)
                  have HC8 := H7.out.setref hzw7 hxg hwg (spendN sp a z) o dn
                  have hz8 : w.heap.size < (((W7.setCell ⟨xb, 0, none⟩ (.int .i64 (spendN sp a z))).setCell ⟨xb, 1, none⟩ (.int .i64 o)).setCell ⟨xb, 2, none⟩ (.int .i64 dn)).heap.size := by simpa using hzw7
                  generalize ((W7.setCell ⟨xb, 0, none⟩ (.int .i64 (spendN sp a z))).setCell ⟨xb, 1, none⟩ (.int .i64 o)).setCell ⟨xb, 2, none⟩ (.int .i64 dn) = w68 at *
                  have Hw68 := Lib.hid HC8
                  clear HC8 H7 y0 y1 y2 yf0 yf1 yf2 r0 r1 r2 f0 f1 f2 hzw7 hyx hyx2
                  have g8 := (Hw68.out.bel.cell (p := a1.add k) (by rw [addBlockT]; exact hab1)).trans GZ.out
                  have hsb := spendN_b sp a z hp0 hp1
                  go_wp2_with fail
                  go_at_call 11
                  refine (spendMC z Hw68.out hz8 hxg hwg (by omega) hzb).mono ?_
                  rintro y w9 ⟨rfl, HM9, hz9⟩
                  have H9 := Lib.hid HM9
                  clear HM9 g8 hz8 Hw68
                  generalize spendN sp a z = sp2 at *
                  generalize spendE sp a z = ek at *
                  obtain ⟨a2, x, rfl, hx2, hev, hok⟩ := HE.out.2 k h2
                  have hxa := evSum_mem hx2
                  have hxall : x.all = x.size + x.n := rfl
                  have hxs : x.size ≤ 5000 := by omega
                  have hxn : x.n ≤ 5000 := by omega
                  have HEV : Hid (∀ W, Below w.heap.size w W → W.cell? (a2.add (k * 5)) = some (.int .i64 x.k) ∧ W.cell? ⟨(a2.add (k * 5)).block, (a2.add (k * 5)).off + 1, none⟩ = some (.string x.sp) ∧ W.cell? ⟨(a2.add (k * 5)).block, (a2.add (k * 5)).off + 2, none⟩ = some (.string x.lo) ∧ W.cell? ⟨(a2.add (k * 5)).block, (a2.add (k * 5)).off + 3, none⟩ = some (.slice x.A x.n x.c) ∧ W.cell? ⟨(a2.add (k * 5)).block, (a2.add (k * 5)).off + 4, none⟩ = some (.string x.tx)) := fun W hW => by
                    obtain ⟨h0, e0, e1, e2, e3, e4⟩ := hev.below hW hev.1
                    exact ⟨e0, e1, e2, e3, e4⟩
                  have CE := remit_any sp2 o dn a b c d e f A n cp x
                  unfold cfgV cfgA at CE
                  have CE := Lib.hid (fun w' (hb : Below w9.heap.size w9 w') => CE w' (hok.below (H9.out.bel.trans (hb.mono H9.out.bel.size))) (by omega) (by omega) ho0 (by omega) hd0 (by omega))
                  have c0 : (0 : Int) ≤ (k : Int) := by omega
                  clear hev hx2 hxa hxall
                  have hzrw9b : w.heap.size < w9.heap.size := by have := H9.out.ref.lt; omega
                  have HKAw9b : Hid (∀ W, Below w9.heap.size w9 W → W.cell? ⟨w.heap.size, 0, none⟩ = some (.int .i64 a) ∧ W.cell? ⟨w.heap.size, 1, none⟩ = some (.int .i64 b) ∧ W.cell? ⟨w.heap.size, 2, none⟩ = some (.int .i64 c) ∧ W.cell? ⟨w.heap.size, 3, none⟩ = some (.int .i64 d) ∧ W.cell? ⟨w.heap.size, 4, none⟩ = some (.int .i64 e) ∧ W.cell? ⟨w.heap.size, 5, none⟩ = some (.int .i64 f) ∧ W.cell? ⟨w.heap.size, 6, none⟩ = some (.slice A n cp) ∧ W.cell? ⟨xb, 0, none⟩ = some (.int .i64 sp2) ∧ W.cell? ⟨xb, 1, none⟩ = some (.int .i64 o) ∧ W.cell? ⟨xb, 2, none⟩ = some (.int .i64 dn) ∧ W.cell? (a2.add (k * 5)) = some (.int .i64 x.k) ∧ W.cell? ⟨(a2.add (k * 5)).block, (a2.add (k * 5)).off + 1, none⟩ = some (.string x.sp) ∧ W.cell? ⟨(a2.add (k * 5)).block, (a2.add (k * 5)).off + 2, none⟩ = some (.string x.lo) ∧ W.cell? ⟨(a2.add (k * 5)).block, (a2.add (k * 5)).off + 3, none⟩ = some (.slice x.A x.n x.c) ∧ W.cell? ⟨(a2.add (k * 5)).block, (a2.add (k * 5)).off + 4, none⟩ = some (.string x.tx)) := (fun W hW => by have HC7 := H9.out.below hzrw9b hW; obtain ⟨v0, v1, v2, v3, v4, v5, v6⟩ := HC7.cfg; obtain ⟨u0, u1, u2, -, -, -⟩ := HC7.ref.cells; exact ⟨v0, v1, v2, v3, v4, v5, v6, u0, u1, u2, HEV.out W HC7.bel⟩)
                  have QS := HKAw9b.out w9 (Below.refl _ _)
                  have HBAw9b : Hid (∀ X, Below w9.heap.size w9 (w9.alloc X).drew) := fun X => ((Below.refl w9.heap.size w9).alloc (Nat.le_refl _) X).trans (below_drew _ _)
                  obtain ⟨q0, q1, q2, q3, q4, q5, q6, r0, r1, r2, gg⟩ := QS
                  go_wp2_with fail
                  go_region_held3 (fun W => W.cell? ⟨w.heap.size, 0, none⟩ = some (.int .i64 a) ∧ W.cell? ⟨w.heap.size, 1, none⟩ = some (.int .i64 b) ∧ W.cell? ⟨w.heap.size, 2, none⟩ = some (.int .i64 c) ∧ W.cell? ⟨w.heap.size, 3, none⟩ = some (.int .i64 d) ∧ W.cell? ⟨w.heap.size, 4, none⟩ = some (.int .i64 e) ∧ W.cell? ⟨w.heap.size, 5, none⟩ = some (.int .i64 f) ∧ W.cell? ⟨w.heap.size, 6, none⟩ = some (.slice A n cp) ∧ W.cell? ⟨xb, 0, none⟩ = some (.int .i64 sp2) ∧ W.cell? ⟨xb, 1, none⟩ = some (.int .i64 o) ∧ W.cell? ⟨xb, 2, none⟩ = some (.int .i64 dn) ∧ W.cell? (a2.add (k * 5)) = some (.int .i64 x.k) ∧ W.cell? ⟨(a2.add (k * 5)).block, (a2.add (k * 5)).off + 1, none⟩ = some (.string x.sp) ∧ W.cell? ⟨(a2.add (k * 5)).block, (a2.add (k * 5)).off + 2, none⟩ = some (.string x.lo) ∧ W.cell? ⟨(a2.add (k * 5)).block, (a2.add (k * 5)).off + 3, none⟩ = some (.slice x.A x.n x.c) ∧ W.cell? ⟨(a2.add (k * 5)).block, (a2.add (k * 5)).off + 4, none⟩ = some (.string x.tx)) (first | exact HKAw9b.out _ HB6 | exact HKAw9b.out _ (HB6.alloc HB6.size _) | exact HKAw9b.out _ (below_three' HB6 (Nat.le_refl _)) | exact HKAw9b.out _ (HBAw9b.out _) | exact HKAw9b.out _ ((Below.refl w9.heap.size w9).alloc (Nat.le_refl _) _) | exact HKAw9b.out _ (below_drew _ _) | exact HKAw9b.out _ (Below.refl _ _))
                    (first
                    | (go_at_call 12; refine (CE.out w9.drew (below_drew _ _)).mono ?_; rintro y w9b ⟨rfl, hb6⟩; have HB6 : Below w9.heap.size w9 w9b := (below_drew _ _).trans hb6; clear hb6)
                    | (go_at_call 12; refine (CE.out (w9.alloc (.cells #[.int .i64 0, .int .i64 0, .int .i64 0] 36)).drew (HBAw9b.out _)).mono ?_; rintro y w9b ⟨rfl, hb6⟩; have HB6 : Below w9.heap.size w9 w9b := (HBAw9b.out _).trans (hb6.mono (HBAw9b.out _).size); have hY : RBlk w9.heap.size 0 0 0 w9b := (show RBlk w9.heap.size 0 0 0 (w9.alloc (.cells #[.int .i64 0, .int .i64 0, .int .i64 0] 36)).drew from heap_alloc_new _ _).below hb6; obtain ⟨y0, y1, y2, yf0, yf1, yf2⟩ := hY.cells; clear hb6))
                  all_goals have HC6 := Lib.hid (H9.out.below hzrw9b HB6)
                  all_goals have hz6 : w.heap.size < w9b.heap.size := Nat.lt_of_lt_of_le hzrw9b HB6.size
                  all_goals have hxr : xb < w9.heap.size := H9.out.ref.lt
                  all_goals have hgr : g < w9.heap.size := H9.out.met.lt
                  all_goals have hr6 : w9.heap.size ≤ w9b.heap.size := HB6.size
                  all_goals clear q0 q1 q2 q3 q4 q5 q6 r0 r1 r2 gg HKAw9b HBAw9b
                  · have hyx : ¬ w9b.heap.size = xb := by omega
                    have hyx2 : ¬ xb = w9b.heap.size := by omega
                    have HC7 := HC6.out.below hz6 ((Below.refl w9b.heap.size w9b).alloc (Nat.le_refl _) (.cells #[.int .i64 sp2, .int .i64 (emitO o b x.size), .int .i64 (emitD o b x.size dn x.n)] 36))
                    have hY7 : RBlk w9b.heap.size sp2 (emitO o b x.size) (emitD o b x.size dn x.n) (w9b.alloc (.cells #[.int .i64 sp2, .int .i64 (emitO o b x.size), .int .i64 (emitD o b x.size dn x.n)] 36)) := heap_alloc_new _ _
                    generalize w9b.alloc (.cells #[.int .i64 sp2, .int .i64 (emitO o b x.size), .int .i64 (emitD o b x.size dn x.n)] 36) = W7 at *
                    obtain ⟨y0, y1, y2, yf0, yf1, yf2⟩ := hY7.cells
                    obtain ⟨r0, r1, r2, f0, f1, f2⟩ := HC7.ref.cells
                    have hzw7 : w.heap.size < W7.heap.size := by have := hY7.lt; omega
                    have H7 := Lib.hid HC7
                    clear HC7 hY7 HC6 HB6 hr6 hz6 hxr hgr
                    go_upto_region 18 with (fail)
                    have HC8 := H7.out.setref hzw7 hxg hwg sp2 (emitO o b x.size) (emitD o b x.size dn x.n)
                    have hz8 : w.heap.size < (((W7.setCell ⟨xb, 0, none⟩ (.int .i64 sp2)).setCell ⟨xb, 1, none⟩ (.int .i64 (emitO o b x.size))).setCell ⟨xb, 2, none⟩ (.int .i64 (emitD o b x.size dn x.n))).heap.size := by simpa using hzw7
                    generalize ((W7.setCell ⟨xb, 0, none⟩ (.int .i64 sp2)).setCell ⟨xb, 1, none⟩ (.int .i64 (emitO o b x.size))).setCell ⟨xb, 2, none⟩ (.int .i64 (emitD o b x.size dn x.n)) = w9b8 at *
                    have Hw9b8 := Lib.hid HC8
                    clear HC8 H7 y0 y1 y2 yf0 yf1 yf2 r0 r1 r2 f0 f1 f2 hzw7 hyx hyx2
                    have hob := emitO_b o b x.size ho0 ho1 (by omega)
                    have hdb := emitD_b o b x.size dn x.n hd0
                    have HM0 := Lib.hid (Hw9b8.out.below hz8 (below_drew _ _))
                    have hzd : w.heap.size < w9b8.drew.heap.size := hz8
                    obtain ⟨g0, g1, g2, g3, g4⟩ := HEV.out w9b8 Hw9b8.out.bel
                    go_wp2_with fail
                    go_region_held3 (fun W => W.cell? (a2.add (k * 5)) = some (.int .i64 x.k) ∧ W.cell? ⟨(a2.add (k * 5)).block, (a2.add (k * 5)).off + 1, none⟩ = some (.string x.sp) ∧ W.cell? ⟨(a2.add (k * 5)).block, (a2.add (k * 5)).off + 2, none⟩ = some (.string x.lo) ∧ W.cell? ⟨(a2.add (k * 5)).block, (a2.add (k * 5)).off + 3, none⟩ = some (.slice x.A x.n x.c) ∧ W.cell? ⟨(a2.add (k * 5)).block, (a2.add (k * 5)).off + 4, none⟩ = some (.string x.tx)) (first | exact HEV.out _ B13 | exact HEV.out _ B12 | exact HEV.out _ HM11.bel | exact HEV.out _ HM0.out.bel | exact HEV.out _ Hw9b8.out.bel)
                      (first
                      | (go_at_call 13; refine (emitMC x HM0.out hzd hxg hwg hok (by omega) (by omega) ho0 (by omega) hd0 (by omega)).mono ?_; rintro y w11 ⟨rfl, HM11, hz11⟩)
                      | (go_at_call 14; refine (mbytes_any x w11 (hok.below HM11.bel) (by omega)).mono ?_; rintro y w12 ⟨rfl, hb12⟩; have B12 : Below w.heap.size w w12 := HM11.bel.trans (hb12.mono HM11.bel.size))
                      | (go_at_call 15; refine (evBytes_any x w12 (hok.below B12) (by omega)).mono ?_; rintro y w13 ⟨rfl, hb13⟩; have B13 : Below w.heap.size w w13 := B12.trans (hb13.mono B12.size)))
                    have H13 := Lib.hid ((HM11.below hz11 hb12).below (Nat.lt_of_lt_of_le hz11 hb12.size) hb13)
                    have hz13 : w.heap.size < w13.heap.size := Nat.lt_of_lt_of_le (Nat.lt_of_lt_of_le hz11 hb12.size) hb13.size
                    clear hb12 hb13 B12 B13 HM11 hz11 Hw9b8 hz8 hzd HM0 g0 g1 g2 g3 g4
                    generalize emitO o b x.size = o2 at *
                    generalize emitD o b x.size dn x.n = dn2 at *
                    have ME := H13.out.met
                    have REc := H13.out.ref.cells
                    have CFc := H13.out.cfg
                    obtain ⟨r0, r1, r2, -, -, -⟩ := REc
                    obtain ⟨q0, q1, -, -, -, -, -⟩ := CFc
                    have hws : IntKind.i64.wrap (sp2 + dn2) = sp2 + dn2 := IntWalk.i64_in _ (by omega)
                    have has : addS sp2 dn2 = sp2 + dn2 := addS_small _ _ (by omega) (by omega) (by omega)
                    have CW := Lib.hid (fun w' (h : MBlk g sp2 a o2 b c d dn2 w') => has ▸ work_any g sp2 a o2 b c d dn2 w' h (by omega) (by omega))
                    have dA : decide (a < sp2) = false := decide_eq_false (by omega)
                    have dB : decide (b < o2) = false := decide_eq_false (by omega)
                    have HME := Lib.hid ME
                    have hdn2 : dn2 ≤ 6000 * ((k : Int) + 1) := by omega
                    clear has ME
                    go_wp2_with fail
                    go_quiet ((first | (go_at_call 16; exact quietM (spent_any g sp2 a o2 b c d dn2 _ HME.out)) | (go_at_call 17; exact quietM (mout_any g sp2 a o2 b c d dn2 _ HME.out)) | (go_at_call 18; exact quietW (CW.out _ HME.out))))
                    go_wp2
                    go_roundg (gk - 1)
                    case measure => omega
                    case rel => exact ⟨k + 1, sp2, o2, dn2, by omega, by go_num, by omega, by omega, by omega, by omega, by omega, by push_cast; omega, H13.out.below hz13 (below_drewN _ _ _)⟩
                  · have hyx : ¬ w9.heap.size = xb := by omega
                    have hyx2 : ¬ xb = w9.heap.size := by omega
                    have HC7 := HC6.out.setother hz6 w9.heap.size (by omega) (by omega) (by omega) (.int .i64 sp2) (.int .i64 (emitO o b x.size)) (.int .i64 (emitD o b x.size dn x.n))
                    have hY7 := hY.set3 (s' := sp2) (o' := (emitO o b x.size)) (k' := (emitD o b x.size dn x.n))
                    clear hY y0 y1 y2 yf0 yf1 yf2
                    generalize ((w9b.setCell ⟨w9.heap.size, 0, none⟩ (.int .i64 sp2)).setCell ⟨w9.heap.size, 1, none⟩ (.int .i64 (emitO o b x.size))).setCell ⟨w9.heap.size, 2, none⟩ (.int .i64 (emitD o b x.size dn x.n)) = W7 at *
                    obtain ⟨y0, y1, y2, yf0, yf1, yf2⟩ := hY7.cells
                    obtain ⟨r0, r1, r2, f0, f1, f2⟩ := HC7.ref.cells
                    have hzw7 : w.heap.size < W7.heap.size := by have := hY7.lt; omega
                    have H7 := Lib.hid HC7
                    clear HC7 hY7 HC6 HB6 hr6 hz6 hxr hgr
                    go_upto_region 18 with (fail)
                    have HC8 := H7.out.setref hzw7 hxg hwg sp2 (emitO o b x.size) (emitD o b x.size dn x.n)
                    have hz8 : w.heap.size < (((W7.setCell ⟨xb, 0, none⟩ (.int .i64 sp2)).setCell ⟨xb, 1, none⟩ (.int .i64 (emitO o b x.size))).setCell ⟨xb, 2, none⟩ (.int .i64 (emitD o b x.size dn x.n))).heap.size := by simpa using hzw7
                    generalize ((W7.setCell ⟨xb, 0, none⟩ (.int .i64 sp2)).setCell ⟨xb, 1, none⟩ (.int .i64 (emitO o b x.size))).setCell ⟨xb, 2, none⟩ (.int .i64 (emitD o b x.size dn x.n)) = w9b8 at *
                    have Hw9b8 := Lib.hid HC8
                    clear HC8 H7 y0 y1 y2 yf0 yf1 yf2 r0 r1 r2 f0 f1 f2 hzw7 hyx hyx2
                    have hob := emitO_b o b x.size ho0 ho1 (by omega)
                    have hdb := emitD_b o b x.size dn x.n hd0
                    have HM0 := Lib.hid (Hw9b8.out.below hz8 (below_drew _ _))
                    have hzd : w.heap.size < w9b8.drew.heap.size := hz8
                    obtain ⟨g0, g1, g2, g3, g4⟩ := HEV.out w9b8 Hw9b8.out.bel
                    go_wp2_with fail
                    go_region_held3 (fun W => W.cell? (a2.add (k * 5)) = some (.int .i64 x.k) ∧ W.cell? ⟨(a2.add (k * 5)).block, (a2.add (k * 5)).off + 1, none⟩ = some (.string x.sp) ∧ W.cell? ⟨(a2.add (k * 5)).block, (a2.add (k * 5)).off + 2, none⟩ = some (.string x.lo) ∧ W.cell? ⟨(a2.add (k * 5)).block, (a2.add (k * 5)).off + 3, none⟩ = some (.slice x.A x.n x.c) ∧ W.cell? ⟨(a2.add (k * 5)).block, (a2.add (k * 5)).off + 4, none⟩ = some (.string x.tx)) (first | exact HEV.out _ B13 | exact HEV.out _ B12 | exact HEV.out _ HM11.bel | exact HEV.out _ HM0.out.bel | exact HEV.out _ Hw9b8.out.bel)
                      (first
                      | (go_at_call 13; refine (emitMC x HM0.out hzd hxg hwg hok (by omega) (by omega) ho0 (by omega) hd0 (by omega)).mono ?_; rintro y w11 ⟨rfl, HM11, hz11⟩)
                      | (go_at_call 14; refine (mbytes_any x w11 (hok.below HM11.bel) (by omega)).mono ?_; rintro y w12 ⟨rfl, hb12⟩; have B12 : Below w.heap.size w w12 := HM11.bel.trans (hb12.mono HM11.bel.size))
                      | (go_at_call 15; refine (evBytes_any x w12 (hok.below B12) (by omega)).mono ?_; rintro y w13 ⟨rfl, hb13⟩; have B13 : Below w.heap.size w w13 := B12.trans (hb13.mono B12.size)))
                    have H13 := Lib.hid ((HM11.below hz11 hb12).below (Nat.lt_of_lt_of_le hz11 hb12.size) hb13)
                    have hz13 : w.heap.size < w13.heap.size := Nat.lt_of_lt_of_le (Nat.lt_of_lt_of_le hz11 hb12.size) hb13.size
                    clear hb12 hb13 B12 B13 HM11 hz11 Hw9b8 hz8 hzd HM0 g0 g1 g2 g3 g4
                    generalize emitO o b x.size = o2 at *
                    generalize emitD o b x.size dn x.n = dn2 at *
                    have ME := H13.out.met
                    have REc := H13.out.ref.cells
                    have CFc := H13.out.cfg
                    obtain ⟨r0, r1, r2, -, -, -⟩ := REc
                    obtain ⟨q0, q1, -, -, -, -, -⟩ := CFc
                    have hws : IntKind.i64.wrap (sp2 + dn2) = sp2 + dn2 := IntWalk.i64_in _ (by omega)
                    have has : addS sp2 dn2 = sp2 + dn2 := addS_small _ _ (by omega) (by omega) (by omega)
                    have CW := Lib.hid (fun w' (h : MBlk g sp2 a o2 b c d dn2 w') => has ▸ work_any g sp2 a o2 b c d dn2 w' h (by omega) (by omega))
                    have dA : decide (a < sp2) = false := decide_eq_false (by omega)
                    have dB : decide (b < o2) = false := decide_eq_false (by omega)
                    have HME := Lib.hid ME
                    have hdn2 : dn2 ≤ 6000 * ((k : Int) + 1) := by omega
                    clear has ME
                    go_wp2_with fail
                    go_quiet ((first | (go_at_call 16; exact quietM (spent_any g sp2 a o2 b c d dn2 _ HME.out)) | (go_at_call 17; exact quietM (mout_any g sp2 a o2 b c d dn2 _ HME.out)) | (go_at_call 18; exact quietW (CW.out _ HME.out))))
                    go_wp2
                    go_roundg (gk - 1)
                    case measure => omega
                    case rel => exact ⟨k + 1, sp2, o2, dn2, by omega, by go_num, by omega, by omega, by omega, by omega, by omega, by push_cast; omega, H13.out.below hz13 (below_drewN _ _ _)⟩
              · have b3 : ¬ (k : Int) < (n2 : Int) := by omega
                obtain ⟨a1, z, rfl, hz1, hab1, gz⟩ := HI.out.2 k h1
                have hzb := HIB.out z (List.mem_of_getElem? hz1)
                have CS := rspend_any sp o dn a b c d e f A n cp z
                unfold cfgV cfgA at CS
                have CS := Lib.hid (fun w' (_ : Below wr.heap.size wr w') => CS w' (by omega) hzb)
                have b0 : (0 : Int) ≤ (k : Int) := by omega
                have b1 : (k : Int) < (n1 : Int) := by omega
                have GZ := Lib.hid gz
                clear hz1 gz
                have gz := GZ.out
                clear gz
                have hzrw6 : w.heap.size < wr.heap.size := by have := HC.out.ref.lt; omega
                have HKAw6 : Hid (∀ W, Below wr.heap.size wr W → W.cell? ⟨w.heap.size, 0, none⟩ = some (.int .i64 a) ∧ W.cell? ⟨w.heap.size, 1, none⟩ = some (.int .i64 b) ∧ W.cell? ⟨w.heap.size, 2, none⟩ = some (.int .i64 c) ∧ W.cell? ⟨w.heap.size, 3, none⟩ = some (.int .i64 d) ∧ W.cell? ⟨w.heap.size, 4, none⟩ = some (.int .i64 e) ∧ W.cell? ⟨w.heap.size, 5, none⟩ = some (.int .i64 f) ∧ W.cell? ⟨w.heap.size, 6, none⟩ = some (.slice A n cp) ∧ W.cell? ⟨xb, 0, none⟩ = some (.int .i64 sp) ∧ W.cell? ⟨xb, 1, none⟩ = some (.int .i64 o) ∧ W.cell? ⟨xb, 2, none⟩ = some (.int .i64 dn) ∧ W.cell? (a1.add k) = some (.int .i64 z)) := (fun W hW => by have HC7 := HC.out.below hzrw6 hW; obtain ⟨v0, v1, v2, v3, v4, v5, v6⟩ := HC7.cfg; obtain ⟨u0, u1, u2, -, -, -⟩ := HC7.ref.cells; exact ⟨v0, v1, v2, v3, v4, v5, v6, u0, u1, u2, (HC7.bel.cell (p := a1.add k) (by rw [addBlockT]; exact hab1)).trans GZ.out⟩)
                have QS := HKAw6.out wr (Below.refl _ _)
                have HBAw6 : Hid (∀ X, Below wr.heap.size wr (wr.alloc X).drew) := fun X => ((Below.refl wr.heap.size wr).alloc (Nat.le_refl _) X).trans (below_drew _ _)
                obtain ⟨q0, q1, q2, q3, q4, q5, q6, r0, r1, r2, gg⟩ := QS
                go_wp2_with fail
                go_region_held3 (fun W => W.cell? ⟨w.heap.size, 0, none⟩ = some (.int .i64 a) ∧ W.cell? ⟨w.heap.size, 1, none⟩ = some (.int .i64 b) ∧ W.cell? ⟨w.heap.size, 2, none⟩ = some (.int .i64 c) ∧ W.cell? ⟨w.heap.size, 3, none⟩ = some (.int .i64 d) ∧ W.cell? ⟨w.heap.size, 4, none⟩ = some (.int .i64 e) ∧ W.cell? ⟨w.heap.size, 5, none⟩ = some (.int .i64 f) ∧ W.cell? ⟨w.heap.size, 6, none⟩ = some (.slice A n cp) ∧ W.cell? ⟨xb, 0, none⟩ = some (.int .i64 sp) ∧ W.cell? ⟨xb, 1, none⟩ = some (.int .i64 o) ∧ W.cell? ⟨xb, 2, none⟩ = some (.int .i64 dn) ∧ W.cell? (a1.add k) = some (.int .i64 z)) (first | exact HKAw6.out _ HB6 | exact HKAw6.out _ (HB6.alloc HB6.size _) | exact HKAw6.out _ (below_three' HB6 (Nat.le_refl _)) | exact HKAw6.out _ (HBAw6.out _) | exact HKAw6.out _ ((Below.refl wr.heap.size wr).alloc (Nat.le_refl _) _) | exact HKAw6.out _ (below_drew _ _) | exact HKAw6.out _ (Below.refl _ _))
                  (first
                  | (go_at_call 10; refine (CS.out wr.drew (below_drew _ _)).mono ?_; rintro y w6 ⟨rfl, hb6⟩; have HB6 : Below wr.heap.size wr w6 := (below_drew _ _).trans hb6; clear hb6)
                  | (go_at_call 10; refine (CS.out (wr.alloc (.cells #[.int .i64 0, .int .i64 0, .int .i64 0] 36)).drew (HBAw6.out _)).mono ?_; rintro y w6 ⟨rfl, hb6⟩; have HB6 : Below wr.heap.size wr w6 := (HBAw6.out _).trans (hb6.mono (HBAw6.out _).size); have hY : RBlk wr.heap.size 0 0 0 w6 := (show RBlk wr.heap.size 0 0 0 (wr.alloc (.cells #[.int .i64 0, .int .i64 0, .int .i64 0] 36)).drew from heap_alloc_new _ _).below hb6; obtain ⟨y0, y1, y2, yf0, yf1, yf2⟩ := hY.cells; clear hb6))
                all_goals have HC6 := Lib.hid (HC.out.below hzrw6 HB6)
                all_goals have hz6 : w.heap.size < w6.heap.size := Nat.lt_of_lt_of_le hzrw6 HB6.size
                all_goals have hxr : xb < wr.heap.size := HC.out.ref.lt
                all_goals have hgr : g < wr.heap.size := HC.out.met.lt
                all_goals have hr6 : wr.heap.size ≤ w6.heap.size := HB6.size
                all_goals clear q0 q1 q2 q3 q4 q5 q6 r0 r1 r2 gg HKAw6 HBAw6
                · have hyx : ¬ w6.heap.size = xb := by omega
                  have hyx2 : ¬ xb = w6.heap.size := by omega
                  have HC7 := HC6.out.below hz6 ((Below.refl w6.heap.size w6).alloc (Nat.le_refl _) (.cells #[.int .i64 (spendN sp a z), .int .i64 o, .int .i64 dn] 36))
                  have hY7 : RBlk w6.heap.size (spendN sp a z) o dn (w6.alloc (.cells #[.int .i64 (spendN sp a z), .int .i64 o, .int .i64 dn] 36)) := heap_alloc_new _ _
                  generalize w6.alloc (.cells #[.int .i64 (spendN sp a z), .int .i64 o, .int .i64 dn] 36) = W7 at *
                  obtain ⟨y0, y1, y2, yf0, yf1, yf2⟩ := hY7.cells
                  obtain ⟨r0, r1, r2, f0, f1, f2⟩ := HC7.ref.cells
                  have hzw7 : w.heap.size < W7.heap.size := by have := hY7.lt; omega
                  have H7 := Lib.hid HC7
                  clear HC7 hY7 HC6 HB6 hr6 hz6 hxr hgr
                  go_upto_region 13 with (fail)
                  have HC8 := H7.out.setref hzw7 hxg hwg (spendN sp a z) o dn
                  have hz8 : w.heap.size < (((W7.setCell ⟨xb, 0, none⟩ (.int .i64 (spendN sp a z))).setCell ⟨xb, 1, none⟩ (.int .i64 o)).setCell ⟨xb, 2, none⟩ (.int .i64 dn)).heap.size := by simpa using hzw7
                  generalize ((W7.setCell ⟨xb, 0, none⟩ (.int .i64 (spendN sp a z))).setCell ⟨xb, 1, none⟩ (.int .i64 o)).setCell ⟨xb, 2, none⟩ (.int .i64 dn) = w68 at *
                  have Hw68 := Lib.hid HC8
                  clear HC8 H7 y0 y1 y2 yf0 yf1 yf2 r0 r1 r2 f0 f1 f2 hzw7 hyx hyx2
                  have g8 := (Hw68.out.bel.cell (p := a1.add k) (by rw [addBlockT]; exact hab1)).trans GZ.out
                  have hsb := spendN_b sp a z hp0 hp1
                  go_wp2_with fail
                  go_at_call 11
                  refine (spendMC z Hw68.out hz8 hxg hwg (by omega) hzb).mono ?_
                  rintro y w9 ⟨rfl, HM9, hz9⟩
                  have H9 := Lib.hid HM9
                  clear HM9 g8 hz8 Hw68
                  generalize spendN sp a z = sp2 at *
                  generalize spendE sp a z = ek at *
                  have ME := H9.out.met
                  have REc := H9.out.ref.cells
                  have CFc := H9.out.cfg
                  obtain ⟨r0, r1, r2, -, -, -⟩ := REc
                  obtain ⟨q0, q1, -, -, -, -, -⟩ := CFc
                  have hws : IntKind.i64.wrap (sp2 + dn) = sp2 + dn := IntWalk.i64_in _ (by omega)
                  have has : addS sp2 dn = sp2 + dn := addS_small _ _ (by omega) (by omega) (by omega)
                  have CW := Lib.hid (fun w' (h : MBlk g sp2 a o b c d dn w') => has ▸ work_any g sp2 a o b c d dn w' h (by omega) (by omega))
                  have dA : decide (a < sp2) = false := decide_eq_false (by omega)
                  have dB : decide (b < o) = false := decide_eq_false (by omega)
                  have HME := Lib.hid ME
                  have hdn2 : dn ≤ 6000 * ((k : Int) + 1) := by omega
                  clear has ME
                  go_wp2_with fail
                  go_quiet ((first | (go_at_call 16; exact quietM (spent_any g sp2 a o b c d dn _ HME.out)) | (go_at_call 17; exact quietM (mout_any g sp2 a o b c d dn _ HME.out)) | (go_at_call 18; exact quietW (CW.out _ HME.out))))
                  go_wp2
                  go_roundg (gk - 1)
                  case measure => omega
                  case rel => exact ⟨k + 1, sp2, o, dn, by omega, by go_num, by omega, by omega, by omega, by omega, by omega, by push_cast; omega, H9.out.below hz9 (below_drewN _ _ _)⟩
                · have hyx : ¬ wr.heap.size = xb := by omega
                  have hyx2 : ¬ xb = wr.heap.size := by omega
                  have HC7 := HC6.out.setother hz6 wr.heap.size (by omega) (by omega) (by omega) (.int .i64 (spendN sp a z)) (.int .i64 o) (.int .i64 dn)
                  have hY7 := hY.set3 (s' := (spendN sp a z)) (o' := o) (k' := dn)
                  clear hY y0 y1 y2 yf0 yf1 yf2
                  generalize ((w6.setCell ⟨wr.heap.size, 0, none⟩ (.int .i64 (spendN sp a z))).setCell ⟨wr.heap.size, 1, none⟩ (.int .i64 o)).setCell ⟨wr.heap.size, 2, none⟩ (.int .i64 dn) = W7 at *
                  obtain ⟨y0, y1, y2, yf0, yf1, yf2⟩ := hY7.cells
                  obtain ⟨r0, r1, r2, f0, f1, f2⟩ := HC7.ref.cells
                  have hzw7 : w.heap.size < W7.heap.size := by have := hY7.lt; omega
                  have H7 := Lib.hid HC7
                  clear HC7 hY7 HC6 HB6 hr6 hz6 hxr hgr
                  go_upto_region 13 with (fail)
                  have HC8 := H7.out.setref hzw7 hxg hwg (spendN sp a z) o dn
                  have hz8 : w.heap.size < (((W7.setCell ⟨xb, 0, none⟩ (.int .i64 (spendN sp a z))).setCell ⟨xb, 1, none⟩ (.int .i64 o)).setCell ⟨xb, 2, none⟩ (.int .i64 dn)).heap.size := by simpa using hzw7
                  generalize ((W7.setCell ⟨xb, 0, none⟩ (.int .i64 (spendN sp a z))).setCell ⟨xb, 1, none⟩ (.int .i64 o)).setCell ⟨xb, 2, none⟩ (.int .i64 dn) = w68 at *
                  have Hw68 := Lib.hid HC8
                  clear HC8 H7 y0 y1 y2 yf0 yf1 yf2 r0 r1 r2 f0 f1 f2 hzw7 hyx hyx2
                  have g8 := (Hw68.out.bel.cell (p := a1.add k) (by rw [addBlockT]; exact hab1)).trans GZ.out
                  have hsb := spendN_b sp a z hp0 hp1
                  go_wp2_with fail
                  go_at_call 11
                  refine (spendMC z Hw68.out hz8 hxg hwg (by omega) hzb).mono ?_
                  rintro y w9 ⟨rfl, HM9, hz9⟩
                  have H9 := Lib.hid HM9
                  clear HM9 g8 hz8 Hw68
                  generalize spendN sp a z = sp2 at *
                  generalize spendE sp a z = ek at *
                  have ME := H9.out.met
                  have REc := H9.out.ref.cells
                  have CFc := H9.out.cfg
                  obtain ⟨r0, r1, r2, -, -, -⟩ := REc
                  obtain ⟨q0, q1, -, -, -, -, -⟩ := CFc
                  have hws : IntKind.i64.wrap (sp2 + dn) = sp2 + dn := IntWalk.i64_in _ (by omega)
                  have has : addS sp2 dn = sp2 + dn := addS_small _ _ (by omega) (by omega) (by omega)
                  have CW := Lib.hid (fun w' (h : MBlk g sp2 a o b c d dn w') => has ▸ work_any g sp2 a o b c d dn w' h (by omega) (by omega))
                  have dA : decide (a < sp2) = false := decide_eq_false (by omega)
                  have dB : decide (b < o) = false := decide_eq_false (by omega)
                  have HME := Lib.hid ME
                  have hdn2 : dn ≤ 6000 * ((k : Int) + 1) := by omega
                  clear has ME
                  go_wp2_with fail
                  go_quiet ((first | (go_at_call 16; exact quietM (spent_any g sp2 a o b c d dn _ HME.out)) | (go_at_call 17; exact quietM (mout_any g sp2 a o b c d dn _ HME.out)) | (go_at_call 18; exact quietW (CW.out _ HME.out))))
                  go_wp2
                  go_roundg (gk - 1)
                  case measure => omega
                  case rel => exact ⟨k + 1, sp2, o, dn, by omega, by go_num, by omega, by omega, by omega, by omega, by omega, by push_cast; omega, H9.out.below hz9 (below_drewN _ _ _)⟩
            · have b1 : ¬ (k : Int) < (n1 : Int) := by omega
              by_cases h2 : k < n2
              · have b3 : (k : Int) < (n2 : Int) := by omega
                obtain ⟨a2, x, rfl, hx2, hev, hok⟩ := HE.out.2 k h2
                have hxa := evSum_mem hx2
                have hxall : x.all = x.size + x.n := rfl
                have hxs : x.size ≤ 5000 := by omega
                have hxn : x.n ≤ 5000 := by omega
                have HEV : Hid (∀ W, Below w.heap.size w W → W.cell? (a2.add (k * 5)) = some (.int .i64 x.k) ∧ W.cell? ⟨(a2.add (k * 5)).block, (a2.add (k * 5)).off + 1, none⟩ = some (.string x.sp) ∧ W.cell? ⟨(a2.add (k * 5)).block, (a2.add (k * 5)).off + 2, none⟩ = some (.string x.lo) ∧ W.cell? ⟨(a2.add (k * 5)).block, (a2.add (k * 5)).off + 3, none⟩ = some (.slice x.A x.n x.c) ∧ W.cell? ⟨(a2.add (k * 5)).block, (a2.add (k * 5)).off + 4, none⟩ = some (.string x.tx)) := fun W hW => by
                  obtain ⟨h0, e0, e1, e2, e3, e4⟩ := hev.below hW hev.1
                  exact ⟨e0, e1, e2, e3, e4⟩
                have CE := remit_any sp o dn a b c d e f A n cp x
                unfold cfgV cfgA at CE
                have CE := Lib.hid (fun w' (hb : Below wr.heap.size wr w') => CE w' (hok.below (HC.out.bel.trans (hb.mono HC.out.bel.size))) (by omega) (by omega) ho0 (by omega) hd0 (by omega))
                have c0 : (0 : Int) ≤ (k : Int) := by omega
                clear hev hx2 hxa hxall
                have hzrwrb : w.heap.size < wr.heap.size := by have := HC.out.ref.lt; omega
                have HKAwrb : Hid (∀ W, Below wr.heap.size wr W → W.cell? ⟨w.heap.size, 0, none⟩ = some (.int .i64 a) ∧ W.cell? ⟨w.heap.size, 1, none⟩ = some (.int .i64 b) ∧ W.cell? ⟨w.heap.size, 2, none⟩ = some (.int .i64 c) ∧ W.cell? ⟨w.heap.size, 3, none⟩ = some (.int .i64 d) ∧ W.cell? ⟨w.heap.size, 4, none⟩ = some (.int .i64 e) ∧ W.cell? ⟨w.heap.size, 5, none⟩ = some (.int .i64 f) ∧ W.cell? ⟨w.heap.size, 6, none⟩ = some (.slice A n cp) ∧ W.cell? ⟨xb, 0, none⟩ = some (.int .i64 sp) ∧ W.cell? ⟨xb, 1, none⟩ = some (.int .i64 o) ∧ W.cell? ⟨xb, 2, none⟩ = some (.int .i64 dn) ∧ W.cell? (a2.add (k * 5)) = some (.int .i64 x.k) ∧ W.cell? ⟨(a2.add (k * 5)).block, (a2.add (k * 5)).off + 1, none⟩ = some (.string x.sp) ∧ W.cell? ⟨(a2.add (k * 5)).block, (a2.add (k * 5)).off + 2, none⟩ = some (.string x.lo) ∧ W.cell? ⟨(a2.add (k * 5)).block, (a2.add (k * 5)).off + 3, none⟩ = some (.slice x.A x.n x.c) ∧ W.cell? ⟨(a2.add (k * 5)).block, (a2.add (k * 5)).off + 4, none⟩ = some (.string x.tx)) := (fun W hW => by have HC7 := HC.out.below hzrwrb hW; obtain ⟨v0, v1, v2, v3, v4, v5, v6⟩ := HC7.cfg; obtain ⟨u0, u1, u2, -, -, -⟩ := HC7.ref.cells; exact ⟨v0, v1, v2, v3, v4, v5, v6, u0, u1, u2, HEV.out W HC7.bel⟩)
                have QS := HKAwrb.out wr (Below.refl _ _)
                have HBAwrb : Hid (∀ X, Below wr.heap.size wr (wr.alloc X).drew) := fun X => ((Below.refl wr.heap.size wr).alloc (Nat.le_refl _) X).trans (below_drew _ _)
                obtain ⟨q0, q1, q2, q3, q4, q5, q6, r0, r1, r2, gg⟩ := QS
                go_wp2_with fail
                go_region_held3 (fun W => W.cell? ⟨w.heap.size, 0, none⟩ = some (.int .i64 a) ∧ W.cell? ⟨w.heap.size, 1, none⟩ = some (.int .i64 b) ∧ W.cell? ⟨w.heap.size, 2, none⟩ = some (.int .i64 c) ∧ W.cell? ⟨w.heap.size, 3, none⟩ = some (.int .i64 d) ∧ W.cell? ⟨w.heap.size, 4, none⟩ = some (.int .i64 e) ∧ W.cell? ⟨w.heap.size, 5, none⟩ = some (.int .i64 f) ∧ W.cell? ⟨w.heap.size, 6, none⟩ = some (.slice A n cp) ∧ W.cell? ⟨xb, 0, none⟩ = some (.int .i64 sp) ∧ W.cell? ⟨xb, 1, none⟩ = some (.int .i64 o) ∧ W.cell? ⟨xb, 2, none⟩ = some (.int .i64 dn) ∧ W.cell? (a2.add (k * 5)) = some (.int .i64 x.k) ∧ W.cell? ⟨(a2.add (k * 5)).block, (a2.add (k * 5)).off + 1, none⟩ = some (.string x.sp) ∧ W.cell? ⟨(a2.add (k * 5)).block, (a2.add (k * 5)).off + 2, none⟩ = some (.string x.lo) ∧ W.cell? ⟨(a2.add (k * 5)).block, (a2.add (k * 5)).off + 3, none⟩ = some (.slice x.A x.n x.c) ∧ W.cell? ⟨(a2.add (k * 5)).block, (a2.add (k * 5)).off + 4, none⟩ = some (.string x.tx)) (first | exact HKAwrb.out _ HB6 | exact HKAwrb.out _ (HB6.alloc HB6.size _) | exact HKAwrb.out _ (below_three' HB6 (Nat.le_refl _)) | exact HKAwrb.out _ (HBAwrb.out _) | exact HKAwrb.out _ ((Below.refl wr.heap.size wr).alloc (Nat.le_refl _) _) | exact HKAwrb.out _ (below_drew _ _) | exact HKAwrb.out _ (Below.refl _ _))
                  (first
                  | (go_at_call 12; refine (CE.out wr.drew (below_drew _ _)).mono ?_; rintro y wrb ⟨rfl, hb6⟩; have HB6 : Below wr.heap.size wr wrb := (below_drew _ _).trans hb6; clear hb6)
                  | (go_at_call 12; refine (CE.out (wr.alloc (.cells #[.int .i64 0, .int .i64 0, .int .i64 0] 36)).drew (HBAwrb.out _)).mono ?_; rintro y wrb ⟨rfl, hb6⟩; have HB6 : Below wr.heap.size wr wrb := (HBAwrb.out _).trans (hb6.mono (HBAwrb.out _).size); have hY : RBlk wr.heap.size 0 0 0 wrb := (show RBlk wr.heap.size 0 0 0 (wr.alloc (.cells #[.int .i64 0, .int .i64 0, .int .i64 0] 36)).drew from heap_alloc_new _ _).below hb6; obtain ⟨y0, y1, y2, yf0, yf1, yf2⟩ := hY.cells; clear hb6))
                all_goals have HC6 := Lib.hid (HC.out.below hzrwrb HB6)
                all_goals have hz6 : w.heap.size < wrb.heap.size := Nat.lt_of_lt_of_le hzrwrb HB6.size
                all_goals have hxr : xb < wr.heap.size := HC.out.ref.lt
                all_goals have hgr : g < wr.heap.size := HC.out.met.lt
                all_goals have hr6 : wr.heap.size ≤ wrb.heap.size := HB6.size
                all_goals clear q0 q1 q2 q3 q4 q5 q6 r0 r1 r2 gg HKAwrb HBAwrb
                · have hyx : ¬ wrb.heap.size = xb := by omega
                  have hyx2 : ¬ xb = wrb.heap.size := by omega
                  have HC7 := HC6.out.below hz6 ((Below.refl wrb.heap.size wrb).alloc (Nat.le_refl _) (.cells #[.int .i64 sp, .int .i64 (emitO o b x.size), .int .i64 (emitD o b x.size dn x.n)] 36))
                  have hY7 : RBlk wrb.heap.size sp (emitO o b x.size) (emitD o b x.size dn x.n) (wrb.alloc (.cells #[.int .i64 sp, .int .i64 (emitO o b x.size), .int .i64 (emitD o b x.size dn x.n)] 36)) := heap_alloc_new _ _
                  generalize wrb.alloc (.cells #[.int .i64 sp, .int .i64 (emitO o b x.size), .int .i64 (emitD o b x.size dn x.n)] 36) = W7 at *
                  obtain ⟨y0, y1, y2, yf0, yf1, yf2⟩ := hY7.cells
                  obtain ⟨r0, r1, r2, f0, f1, f2⟩ := HC7.ref.cells
                  have hzw7 : w.heap.size < W7.heap.size := by have := hY7.lt; omega
                  have H7 := Lib.hid HC7
                  clear HC7 hY7 HC6 HB6 hr6 hz6 hxr hgr
                  go_upto_region 18 with (fail)
                  have HC8 := H7.out.setref hzw7 hxg hwg sp (emitO o b x.size) (emitD o b x.size dn x.n)
                  have hz8 : w.heap.size < (((W7.setCell ⟨xb, 0, none⟩ (.int .i64 sp)).setCell ⟨xb, 1, none⟩ (.int .i64 (emitO o b x.size))).setCell ⟨xb, 2, none⟩ (.int .i64 (emitD o b x.size dn x.n))).heap.size := by simpa using hzw7
                  generalize ((W7.setCell ⟨xb, 0, none⟩ (.int .i64 sp)).setCell ⟨xb, 1, none⟩ (.int .i64 (emitO o b x.size))).setCell ⟨xb, 2, none⟩ (.int .i64 (emitD o b x.size dn x.n)) = wrb8 at *
                  have Hwrb8 := Lib.hid HC8
                  clear HC8 H7 y0 y1 y2 yf0 yf1 yf2 r0 r1 r2 f0 f1 f2 hzw7 hyx hyx2
                  have hob := emitO_b o b x.size ho0 ho1 (by omega)
                  have hdb := emitD_b o b x.size dn x.n hd0
                  have HM0 := Lib.hid (Hwrb8.out.below hz8 (below_drew _ _))
                  have hzd : w.heap.size < wrb8.drew.heap.size := hz8
                  obtain ⟨g0, g1, g2, g3, g4⟩ := HEV.out wrb8 Hwrb8.out.bel
                  go_wp2_with fail
                  go_region_held3 (fun W => W.cell? (a2.add (k * 5)) = some (.int .i64 x.k) ∧ W.cell? ⟨(a2.add (k * 5)).block, (a2.add (k * 5)).off + 1, none⟩ = some (.string x.sp) ∧ W.cell? ⟨(a2.add (k * 5)).block, (a2.add (k * 5)).off + 2, none⟩ = some (.string x.lo) ∧ W.cell? ⟨(a2.add (k * 5)).block, (a2.add (k * 5)).off + 3, none⟩ = some (.slice x.A x.n x.c) ∧ W.cell? ⟨(a2.add (k * 5)).block, (a2.add (k * 5)).off + 4, none⟩ = some (.string x.tx)) (first | exact HEV.out _ B13 | exact HEV.out _ B12 | exact HEV.out _ HM11.bel | exact HEV.out _ HM0.out.bel | exact HEV.out _ Hwrb8.out.bel)
                    (first
                    | (go_at_call 13; refine (emitMC x HM0.out hzd hxg hwg hok (by omega) (by omega) ho0 (by omega) hd0 (by omega)).mono ?_; rintro y w11 ⟨rfl, HM11, hz11⟩)
                    | (go_at_call 14; refine (mbytes_any x w11 (hok.below HM11.bel) (by omega)).mono ?_; rintro y w12 ⟨rfl, hb12⟩; have B12 : Below w.heap.size w w12 := HM11.bel.trans (hb12.mono HM11.bel.size))
                    | (go_at_call 15; refine (evBytes_any x w12 (hok.below B12) (by omega)).mono ?_; rintro y w13 ⟨rfl, hb13⟩; have B13 : Below w.heap.size w w13 := B12.trans (hb13.mono B12.size)))
                  have H13 := Lib.hid ((HM11.below hz11 hb12).below (Nat.lt_of_lt_of_le hz11 hb12.size) hb13)
                  have hz13 : w.heap.size < w13.heap.size := Nat.lt_of_lt_of_le (Nat.lt_of_lt_of_le hz11 hb12.size) hb13.size
                  clear hb12 hb13 B12 B13 HM11 hz11 Hwrb8 hz8 hzd HM0 g0 g1 g2 g3 g4
                  generalize emitO o b x.size = o2 at *
                  generalize emitD o b x.size dn x.n = dn2 at *
                  have ME := H13.out.met
                  have REc := H13.out.ref.cells
                  have CFc := H13.out.cfg
                  obtain ⟨r0, r1, r2, -, -, -⟩ := REc
                  obtain ⟨q0, q1, -, -, -, -, -⟩ := CFc
                  have hws : IntKind.i64.wrap (sp + dn2) = sp + dn2 := IntWalk.i64_in _ (by omega)
                  have has : addS sp dn2 = sp + dn2 := addS_small _ _ (by omega) (by omega) (by omega)
                  have CW := Lib.hid (fun w' (h : MBlk g sp a o2 b c d dn2 w') => has ▸ work_any g sp a o2 b c d dn2 w' h (by omega) (by omega))
                  have dA : decide (a < sp) = false := decide_eq_false (by omega)
                  have dB : decide (b < o2) = false := decide_eq_false (by omega)
                  have HME := Lib.hid ME
                  have hdn2 : dn2 ≤ 6000 * ((k : Int) + 1) := by omega
                  clear has ME
                  go_wp2_with fail
                  go_quiet ((first | (go_at_call 16; exact quietM (spent_any g sp a o2 b c d dn2 _ HME.out)) | (go_at_call 17; exact quietM (mout_any g sp a o2 b c d dn2 _ HME.out)) | (go_at_call 18; exact quietW (CW.out _ HME.out))))
                  go_wp2
                  go_roundg (gk - 1)
                  case measure => omega
                  case rel => exact ⟨k + 1, sp, o2, dn2, by omega, by go_num, by omega, by omega, by omega, by omega, by omega, by push_cast; omega, H13.out.below hz13 (below_drewN _ _ _)⟩
                · have hyx : ¬ wr.heap.size = xb := by omega
                  have hyx2 : ¬ xb = wr.heap.size := by omega
                  have HC7 := HC6.out.setother hz6 wr.heap.size (by omega) (by omega) (by omega) (.int .i64 sp) (.int .i64 (emitO o b x.size)) (.int .i64 (emitD o b x.size dn x.n))
                  have hY7 := hY.set3 (s' := sp) (o' := (emitO o b x.size)) (k' := (emitD o b x.size dn x.n))
                  clear hY y0 y1 y2 yf0 yf1 yf2
                  generalize ((wrb.setCell ⟨wr.heap.size, 0, none⟩ (.int .i64 sp)).setCell ⟨wr.heap.size, 1, none⟩ (.int .i64 (emitO o b x.size))).setCell ⟨wr.heap.size, 2, none⟩ (.int .i64 (emitD o b x.size dn x.n)) = W7 at *
                  obtain ⟨y0, y1, y2, yf0, yf1, yf2⟩ := hY7.cells
                  obtain ⟨r0, r1, r2, f0, f1, f2⟩ := HC7.ref.cells
                  have hzw7 : w.heap.size < W7.heap.size := by have := hY7.lt; omega
                  have H7 := Lib.hid HC7
                  clear HC7 hY7 HC6 HB6 hr6 hz6 hxr hgr
                  go_upto_region 18 with (fail)
                  have HC8 := H7.out.setref hzw7 hxg hwg sp (emitO o b x.size) (emitD o b x.size dn x.n)
                  have hz8 : w.heap.size < (((W7.setCell ⟨xb, 0, none⟩ (.int .i64 sp)).setCell ⟨xb, 1, none⟩ (.int .i64 (emitO o b x.size))).setCell ⟨xb, 2, none⟩ (.int .i64 (emitD o b x.size dn x.n))).heap.size := by simpa using hzw7
                  generalize ((W7.setCell ⟨xb, 0, none⟩ (.int .i64 sp)).setCell ⟨xb, 1, none⟩ (.int .i64 (emitO o b x.size))).setCell ⟨xb, 2, none⟩ (.int .i64 (emitD o b x.size dn x.n)) = wrb8 at *
                  have Hwrb8 := Lib.hid HC8
                  clear HC8 H7 y0 y1 y2 yf0 yf1 yf2 r0 r1 r2 f0 f1 f2 hzw7 hyx hyx2
                  have hob := emitO_b o b x.size ho0 ho1 (by omega)
                  have hdb := emitD_b o b x.size dn x.n hd0
                  have HM0 := Lib.hid (Hwrb8.out.below hz8 (below_drew _ _))
                  have hzd : w.heap.size < wrb8.drew.heap.size := hz8
                  obtain ⟨g0, g1, g2, g3, g4⟩ := HEV.out wrb8 Hwrb8.out.bel
                  go_wp2_with fail
                  go_region_held3 (fun W => W.cell? (a2.add (k * 5)) = some (.int .i64 x.k) ∧ W.cell? ⟨(a2.add (k * 5)).block, (a2.add (k * 5)).off + 1, none⟩ = some (.string x.sp) ∧ W.cell? ⟨(a2.add (k * 5)).block, (a2.add (k * 5)).off + 2, none⟩ = some (.string x.lo) ∧ W.cell? ⟨(a2.add (k * 5)).block, (a2.add (k * 5)).off + 3, none⟩ = some (.slice x.A x.n x.c) ∧ W.cell? ⟨(a2.add (k * 5)).block, (a2.add (k * 5)).off + 4, none⟩ = some (.string x.tx)) (first | exact HEV.out _ B13 | exact HEV.out _ B12 | exact HEV.out _ HM11.bel | exact HEV.out _ HM0.out.bel | exact HEV.out _ Hwrb8.out.bel)
                    (first
                    | (go_at_call 13; refine (emitMC x HM0.out hzd hxg hwg hok (by omega) (by omega) ho0 (by omega) hd0 (by omega)).mono ?_; rintro y w11 ⟨rfl, HM11, hz11⟩)
                    | (go_at_call 14; refine (mbytes_any x w11 (hok.below HM11.bel) (by omega)).mono ?_; rintro y w12 ⟨rfl, hb12⟩; have B12 : Below w.heap.size w w12 := HM11.bel.trans (hb12.mono HM11.bel.size))
                    | (go_at_call 15; refine (evBytes_any x w12 (hok.below B12) (by omega)).mono ?_; rintro y w13 ⟨rfl, hb13⟩; have B13 : Below w.heap.size w w13 := B12.trans (hb13.mono B12.size)))
                  have H13 := Lib.hid ((HM11.below hz11 hb12).below (Nat.lt_of_lt_of_le hz11 hb12.size) hb13)
                  have hz13 : w.heap.size < w13.heap.size := Nat.lt_of_lt_of_le (Nat.lt_of_lt_of_le hz11 hb12.size) hb13.size
                  clear hb12 hb13 B12 B13 HM11 hz11 Hwrb8 hz8 hzd HM0 g0 g1 g2 g3 g4
                  generalize emitO o b x.size = o2 at *
                  generalize emitD o b x.size dn x.n = dn2 at *
                  have ME := H13.out.met
                  have REc := H13.out.ref.cells
                  have CFc := H13.out.cfg
                  obtain ⟨r0, r1, r2, -, -, -⟩ := REc
                  obtain ⟨q0, q1, -, -, -, -, -⟩ := CFc
                  have hws : IntKind.i64.wrap (sp + dn2) = sp + dn2 := IntWalk.i64_in _ (by omega)
                  have has : addS sp dn2 = sp + dn2 := addS_small _ _ (by omega) (by omega) (by omega)
                  have CW := Lib.hid (fun w' (h : MBlk g sp a o2 b c d dn2 w') => has ▸ work_any g sp a o2 b c d dn2 w' h (by omega) (by omega))
                  have dA : decide (a < sp) = false := decide_eq_false (by omega)
                  have dB : decide (b < o2) = false := decide_eq_false (by omega)
                  have HME := Lib.hid ME
                  have hdn2 : dn2 ≤ 6000 * ((k : Int) + 1) := by omega
                  clear has ME
                  go_wp2_with fail
                  go_quiet ((first | (go_at_call 16; exact quietM (spent_any g sp a o2 b c d dn2 _ HME.out)) | (go_at_call 17; exact quietM (mout_any g sp a o2 b c d dn2 _ HME.out)) | (go_at_call 18; exact quietW (CW.out _ HME.out))))
                  go_wp2
                  go_roundg (gk - 1)
                  case measure => omega
                  case rel => exact ⟨k + 1, sp, o2, dn2, by omega, by go_num, by omega, by omega, by omega, by omega, by omega, by push_cast; omega, H13.out.below hz13 (below_drewN _ _ _)⟩
              · have b1 : ¬ (k : Int) < (n1 : Int) := by omega
                have b3 : ¬ (k : Int) < (n2 : Int) := by omega
                have HB := Lib.hid HC.out.bel
                go_wp2_with fail
                go_at_call 8
                refine (CL.out _ (maxlen_below HM.out HB.out)).mono ?_
                rintro e0 w' ⟨rfl, hb⟩
                go_wp2
                go_ret
                exact ⟨rfl, HB.out.trans (hb.mono HB.out.size)⟩
    · have t1 : (k == 0) = false := by simpa using hk
      have t2 : (k != 0) = true := by simpa using hk
      go_wp2_with fail
      go_at_call 8
      refine (CL.out _ HM2.out).mono ?_
      rintro e0 w' ⟨rfl, hb⟩
      go_wp2
      go_ret
      exact ⟨rfl, HB2.out.trans (hb.mono HB2.out.size)⟩
end Go.Proofs.YtfkeceggiddlbaaGreatDoor
