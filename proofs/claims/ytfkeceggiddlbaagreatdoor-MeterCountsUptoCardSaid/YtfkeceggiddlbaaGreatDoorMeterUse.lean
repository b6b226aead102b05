/- The contracts of a meter's methods Deep, Wide, Work, Spend, Spent; the walks of narthexlaw26.live, MeterDeep. Conditions: numbers that Go can hold; internal/bytealg.MaxLen holds an int. -/
import Derived.Test.YtfkeceggiddlbaaGreatDoorMeter
import Derived.Lib.SmallJoins
namespace Go.Proofs.YtfkeceggiddlbaaGreatDoor
open Go.RowKit Go.Shelf Go.Proofs.YtfkeceggiddlbaaGreatDoor.CharsPlain Go.Proofs.YtfkeceggiddlbaaGreatDoor.UriPlain Go.Proofs.YtfkeceggiddlbaaGreatDoor.SatPlain
set_option linter.unusedVariables false
set_option linter.unusedSimpArgs false
def abvM (n most : Int) : Int := if most < n then 11 else 0
theorem above_any (n most : Int) (w : World) : Calls Tryz.prog 28 #[.int .i64 n, .int .i64 most] w (RetI (abvM n most) w) := by
  by_cases h : most < n
  · have e : abvM n most = 11 := by unfold abvM; rw [if_pos h]
    rw [e]
    go_enter Tryz.func28, Tryz.ntmps28
    go_wp2
    go_ret
    exact ⟨rfl, rfl⟩
  · have e : abvM n most = 0 := by unfold abvM; rw [if_neg h]
    rw [e]
    go_enter Tryz.func28, Tryz.ntmps28
    go_wp2
    go_ret
    exact ⟨rfl, rfl⟩
set_option maxRecDepth 100000 in
theorem deep_any (g : Nat) (x n most on om deep wide doing : Int) (w : World) (h : MBlk g n most on om deep wide doing w) : Calls Tryz.prog 19 #[.pointer (some ⟨g, 0, none⟩), .int .i64 x] w (RetI (abvM x deep) w) := by
  obtain ⟨c0, c1, c2, c3, c4, c5, c6⟩ := h.cells
  have C := Lib.hid (above_any x deep w)
  clear h
  go_enter Tryz.func19, Tryz.ntmps19
  go_wp2_with fail
  refine C.out.mono ?_
  rintro e w' ⟨rfl, rfl⟩
  go_wp2
  go_ret
  exact ⟨rfl, rfl⟩
set_option maxRecDepth 100000 in
theorem wide_any (g : Nat) (x n most on om deep wide doing : Int) (w : World) (h : MBlk g n most on om deep wide doing w) : Calls Tryz.prog 20 #[.pointer (some ⟨g, 0, none⟩), .int .i64 x] w (RetI (abvM x wide) w) := by
  obtain ⟨c0, c1, c2, c3, c4, c5, c6⟩ := h.cells
  have C := Lib.hid (above_any x wide w)
  clear h
  go_enter Tryz.func20, Tryz.ntmps20
  go_wp2_with fail
  refine C.out.mono ?_
  rintro e w' ⟨rfl, rfl⟩
  go_wp2
  go_ret
  exact ⟨rfl, rfl⟩
/-- Returned a number; the world is as it was but for draws. -/
def DrewI (n : Int) (w : World) (e : Ending) (w' : World) : Prop := e = .returned (.int .i64 n) ∧ ∃ k, w' = w.drewN k
theorem quietM {P : Program} {f : FuncId} {args : Array Value} {w : World} {n : Nat} {m : Int} (h : Calls P f args (w.drewN n) (RetI m (w.drewN n))) :
    Calls P f args (w.drewN n) fun e w'' => e = .returned (.int .i64 m) ∧ ∃ k, w'' = w.drewN k := Calls.quiet_of_same (h.mono fun _ _ h => ⟨h.1, h.2.symm⟩)
set_option maxRecDepth 100000 in
set_option maxHeartbeats 1000000 in
theorem work_any (g : Nat) (n most on om deep wide doing : Int) (w : World) (h : MBlk g n most on om deep wide doing w) (h1 : n ≤ 9223372036854775807) (h2 : doing ≤ 9223372036854775807) : Calls Tryz.prog 18 #[.pointer (some ⟨g, 0, none⟩)] w (DrewI (addS n doing) w) := by
  obtain ⟨c0, c1, c2, c3, c4, c5, c6⟩ := h.cells
  clear h
  go_enter Tryz.func18, Tryz.ntmps18
  go_wp2_with fail
  go_quiet ((go_at_call 27; exact quietM (madd_any _ _ _ h1 h2)))
  go_wp2
  go_ret
  exact ⟨rfl, _, rfl⟩
set_option maxRecDepth 100000 in
theorem spent_any (g : Nat) (n most on om deep wide doing : Int) (w : World) (h : MBlk g n most on om deep wide doing w) : Calls Tryz.prog 16 #[.pointer (some ⟨g, 0, none⟩)] w (RetI n w) := by
  obtain ⟨c0, c1, c2, c3, c4, c5, c6⟩ := h.cells
  clear h
  go_enter Tryz.func16, Tryz.ntmps16
  go_wp2
  go_ret
  exact ⟨rfl, rfl⟩
def RetSet (g o : Nat) (x : Int) (w : World) (e : Ending) (w' : World) : Prop := e = .returned (.int .i64 0) ∧ w' = w.setCell ⟨g, o, none⟩ (.int .i64 x)
set_option maxRecDepth 100000 in
theorem cadd_no (g o : Nat) (n most x : Int) (w : World) (c0 : w.cell? ⟨g, o, none⟩ = some (.int .i64 n)) (c1 : w.cell? ⟨g, o + 1, none⟩ = some (.int .i64 most)) (h1 : n ≤ 9223372036854775807) (h2 : x ≤ 9223372036854775807) (h : most < addS n x) :
    Calls Tryz.prog 26 #[.pointer (some ⟨g, o, none⟩), .int .i64 x] w (RetI 11 w) := by
  have C := Lib.hid (madd_any n x w h1 h2)
  generalize addS n x = s at C h
  go_enter Tryz.func26, Tryz.ntmps26
  go_wp2_with fail
  refine C.out.mono ?_
  rintro e w' ⟨rfl, rfl⟩
  go_wp2
  go_ret
  exact ⟨rfl, rfl⟩
set_option maxRecDepth 100000 in
theorem cadd_yes (g o : Nat) (n most x : Int) (w : World) (c0 : w.cell? ⟨g, o, none⟩ = some (.int .i64 n)) (c1 : w.cell? ⟨g, o + 1, none⟩ = some (.int .i64 most)) (f0 : w.frozen? ⟨g, o, none⟩ = false) (h1 : n ≤ 9223372036854775807) (h2 : x ≤ 9223372036854775807) (h : ¬ most < addS n x) :
    Calls Tryz.prog 26 #[.pointer (some ⟨g, o, none⟩), .int .i64 x] w (RetSet g o (addS n x) w) := by
  have C := Lib.hid (madd_any n x w h1 h2)
  generalize addS n x = s at C h
  go_enter Tryz.func26, Tryz.ntmps26
  go_wp2_with fail
  refine C.out.mono ?_
  rintro e w' ⟨rfl, rfl⟩
  go_wp2
  go_ret
  exact ⟨rfl, rfl⟩
def spendN (n most x : Int) : Int := if most < addS n x then n else addS n x
def spendE (n most x : Int) : Int := if most < addS n x then 11 else 0
/-- All blocks but g stay. -/
def KeepsBut (g : Nat) (w w' : World) : Prop := (∀ k, k ≠ g → k < w.heap.size → w'.heap[k]? = w.heap[k]?) ∧ w.heap.size ≤ w'.heap.size
theorem KeepsBut.refl (g : Nat) (w : World) : KeepsBut g w w := ⟨fun _ _ _ => rfl, Nat.le_refl _⟩
theorem KeepsBut.of_below (g : Nat) {w w' : World} (h : Below w.heap.size w w') : KeepsBut g w w' := ⟨fun k _ hk => h.block k hk, h.size⟩
theorem KeepsBut.set (g o : Nat) (v : Value) (w : World) : KeepsBut g w (w.setCell ⟨g, o, none⟩ v) := ⟨fun k hk _ => Below.heap_setCell w ⟨g, o, none⟩ v k hk, by simp⟩
theorem KeepsBut.trans {g : Nat} {a b c : World} (h : KeepsBut g a b) (h2 : KeepsBut g b c) : KeepsBut g a c :=
  ⟨fun k hk hl => (h2.1 k hk (Nat.lt_of_lt_of_le hl h.2)).trans (h.1 k hk hl), Nat.le_trans h.2 h2.2⟩
theorem KeepsBut.cell {g : Nat} {w w' : World} (h : KeepsBut g w w') {p : Addr} (hp : p.block ≠ g) (hl : p.block < w.heap.size) : w'.cell? p = w.cell? p := by
  unfold World.cell?; rw [h.1 p.block hp hl]
/-- What Spend tells, and leaves. -/
def TellSpend (g : Nat) (x n most on om deep wide doing : Int) (w : World) (e : Ending) (w' : World) : Prop := e = .returned (.int .i64 (spendE n most x)) ∧ MBlk g (spendN n most x) most on om deep wide doing w' ∧ Below g w w' ∧ w'.heap.size = w.heap.size ∧ KeepsBut g w w'
theorem MBlk.set0 {g : Nat} {n most on om deep wide doing : Int} {w : World} (h : MBlk g n most on om deep wide doing w) (x : Int) : MBlk g x most on om deep wide doing (w.setCell ⟨g, 0, none⟩ (.int .i64 x)) := Go.Joins.block_setCell h _
set_option maxRecDepth 100000 in
theorem spend_any (g : Nat) (x n most on om deep wide doing : Int) (w : World) (h : MBlk g n most on om deep wide doing w) (h1 : n ≤ 9223372036854775807) (h2 : x ≤ 9223372036854775807) : Calls Tryz.prog 11 #[.pointer (some ⟨g, 0, none⟩), .int .i64 x] w (TellSpend g x n most on om deep wide doing w) := by
  obtain ⟨c0, c1, c2, c3, c4, c5, c6⟩ := h.cells
  unfold TellSpend
  by_cases hc : most < addS n x
  · have C := Lib.hid (cadd_no g 0 n most x w c0 c1 h1 h2 hc)
    have e1 : spendE n most x = 11 := by unfold spendE; rw [if_pos hc]
    have e2 : spendN n most x = n := by unfold spendN; rw [if_pos hc]
    rw [e1, e2]
    have H := Lib.hid h
    clear h e1 e2 hc
    go_enter Tryz.func11, Tryz.ntmps11
    go_wp2_with fail
    refine C.out.mono ?_
    rintro e w' ⟨rfl, rfl⟩
    go_wp2
    go_ret
    exact ⟨rfl, H.out, Below.refl _ _, rfl, KeepsBut.refl _ _⟩
  · have C := Lib.hid (cadd_yes g 0 n most x w c0 c1 (h.free 0) h1 h2 hc)
    have e1 : spendE n most x = 0 := by unfold spendE; rw [if_neg hc]
    have e2 : spendN n most x = addS n x := by unfold spendN; rw [if_neg hc]
    rw [e1, e2]
    have H := Lib.hid h
    clear h e1 e2 hc
    generalize addS n x = s at C ⊢
    go_enter Tryz.func11, Tryz.ntmps11
    go_wp2_with fail
    refine C.out.mono ?_
    rintro e w' ⟨rfl, rfl⟩
    go_wp2
    go_ret
    exact ⟨rfl, H.out.set0 s, (Below.refl g w).setCell (p := ⟨g, 0, none⟩) (Nat.le_refl _) _, by simp, KeepsBut.set _ _ _ _⟩
set_option maxRecDepth 100000 in
set_option maxHeartbeats 1000000 in
theorem live26_any (w : World) (m : Int) (hm : w.cell? ⟨0, 0, none⟩ = some (.int .i64 m)) : Calls Tryz.prog 8 #[] w (BelB true w) := by
  have C0 := mnew_any 5 0 0 0 0 0 none 0 0 [] w m ⟨rfl, fun k hk => by omega⟩ (by omega) (fun x hx => by cases hx) hm
  rw [show ckM 5 0 0 0 0 0 [] = 0 from by decide +kernel] at C0
  unfold cfgV cfgA at C0
  have C0 := Lib.hid C0
  clear hm
  go_enter Tryz.func8, Tryz.ntmps8
  go_wp2_with fail
  refine C0.out.mono ?_
  rintro e w1 ⟨hb1, ⟨h, -⟩ | ⟨-, g, rfl, hg, hM⟩⟩
  · exact absurd rfl h
  have C1 := spend_any g 3 0 5 0 0 0 0 0 w1 hM (by omega) (by omega)
  have HB1 := Lib.hid hb1
  have C1 := Lib.hid C1
  clear hb1 hM
  go_wp2_with fail
  refine C1.out.mono ?_
  rintro e w2 ⟨rfl, hM2, hb2, hz2⟩
  rw [show spendN 0 5 3 = 3 from rfl] at hM2
  rw [show spendE 0 5 3 = 0 from rfl]
  have C2 := Lib.hid (spend_any g 3 3 5 0 0 0 0 0 w2 hM2 (by omega) (by omega))
  have HB2 := Lib.hid (HB1.out.trans (hb2.mono hg))
  clear hM2 hb2 hz2 C1
  go_wp2_with fail
  refine C2.out.mono ?_
  rintro e w3 ⟨rfl, hM3, hb3, hz3⟩
  rw [show spendN 3 5 3 = 3 from rfl] at hM3
  rw [show spendE 3 5 3 = 11 from rfl]
  have C3 := Lib.hid (spend_any g 2 3 5 0 0 0 0 0 w3 hM3 (by omega) (by omega))
  have HB3 := Lib.hid (HB2.out.trans (hb3.mono hg))
  clear hM3 hb3 hz3 C2
  go_wp2_with fail
  refine C3.out.mono ?_
  rintro e w4 ⟨rfl, hM4, hb4, hz4⟩
  rw [show spendN 3 5 2 = 5 from rfl] at hM4
  rw [show spendE 3 5 2 = 0 from rfl]
  have C4 := Lib.hid (spent_any g 5 5 0 0 0 0 0 w4 hM4)
  have HB4 := Lib.hid (HB3.out.trans (hb4.mono hg))
  clear hM4 hb4 hz4 C3
  go_wp2_with fail
  refine C4.out.mono ?_
  rintro e w5 ⟨rfl, rfl⟩
  go_wp2
  go_ret
  exact ⟨rfl, HB4.out⟩
end Go.Proofs.YtfkeceggiddlbaaGreatDoor
