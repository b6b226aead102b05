/- The contract of query.one: a part of a path's pattern as a step. Conditions: the tables of chars and of utf hold what the text gives them. -/
import Derived.Test.YtlifdmehejehjaaDoorQCuts
import Derived.Test.YtlifdmehejehjaaDoorQMem
import Derived.Test.YtlifdmehejehjaaDoorNamePart
namespace Go.Proofs.YtlifdmehejehjaaDoor
open Go.RowKit Go.Proofs.YtlifdmehejehjaaDoor.QPlain Go.Proofs.YtlifdmehejehjaaDoor.UtfPlain Go.Proofs.YtlifdmehejehjaaDoor.NamePlain
set_option linter.unusedVariables false
set_option linter.unusedSimpArgs false
def stV (x : StN) : Value := .agg #[.bool x.any, .bool x.deep, .string x.nm]
theorem sL_lit {p : ByteArray} {l : List UInt8} (h : ¬ p = ⟨l.toArray⟩) : (p.toList == l) = false := by
  rw [beq_eq_false_iff_ne]
  intro e
  apply h
  apply sL_inj.1
  rw [e, ByteArray.toList_eq]
def RetOne (r : StN × Bool) (w : World) (e : Ending) (w' : World) : Prop := e = .returned (.tuple #[stV r.1, .bool r.2]) ∧ Below w.heap.size w w'
set_option maxRecDepth 100000 in
set_option maxHeartbeats 2000000 in
theorem qone_any (p : ByteArray) (w : World) (hs : p.size ≤ 1099511627776) (hf : FormsAt w) (ht : Tabs w) :
    Calls Tryd.prog 30 #[.string p] w (RetOne (oneN p) w) := by
  by_cases h1 : p = ⟨#[42]⟩
  · subst h1
    have hr : oneN ⟨#[42]⟩ = (⟨true, false, ⟨#[]⟩⟩, true) := rfl
    rw [hr]
    clear hf ht hs hr
    go_enter Tryd.func30, Tryd.ntmps30
    go_wp2
    refine bodyPost_ret (v := .tuple #[.agg #[.bool true, .bool false, .string ⟨#[]⟩], .bool true]) (by simp [results, Tryd.results30, go_sem]) rfl ?_
    exact ⟨rfl, (Below.refl _ w).alloc (Nat.le_refl _) _⟩
  · by_cases h2 : p = ⟨#[42, 42]⟩
    · subst h2
      have hr : oneN ⟨#[42, 42]⟩ = (⟨false, true, ⟨#[]⟩⟩, true) := rfl
      rw [hr]
      clear hf ht hs hr h1
      go_enter Tryd.func30, Tryd.ntmps30
      go_wp2
      refine bodyPost_ret (v := .tuple #[.agg #[.bool false, .bool true, .string ⟨#[]⟩], .bool true]) (by simp [results, Tryd.results30, go_sem]) rfl ?_
      exact ⟨rfl, (Below.refl _ w).alloc (Nat.le_refl _) _⟩
    · have hr : oneN p = (⟨false, false, p⟩, isN (bsOf p) true) := by unfold oneN; rw [if_neg h1, if_neg h2]
      rw [hr]
      have g1 : (p.toList == [42]) = false := sL_lit h1
      have g2 : (p.toList == [42, 42]) = false := sL_lit h2
      have HF := Lib.hid hf
      have HT := Lib.hid ht
      have C := isPlain_any p (w.alloc (.cells #[.bool false, .bool false, .string ⟨#[]⟩] 35)) hs (hf.below ((Below.refl _ w).alloc (Nat.le_refl _) _) hf.size) (ht.below ((Below.refl _ w).alloc (Nat.le_refl _) _) ht.size)
      generalize isN (bsOf p) true = b at *
      have C := Lib.hid C
      clear hf ht hr h1 h2
      go_enter Tryd.func30, Tryd.ntmps30
      go_wp2_with fail
      refine C.out.mono ?_
      rintro e w1 ⟨rfl, hB⟩
      have hb : w1.heap[w.heap.size]? = some (.cells #[.bool false, .bool false, .string ⟨#[]⟩] 35 (0, 0)) := (hB.block _ (by simp)).trans (heap_alloc_new w _)
      have c0 : w1.cell? ⟨w.heap.size, 0, none⟩ = some (.bool false) := by rw [Lib.cell_of_heap hb]; rfl
      have c1 : w1.cell? ⟨w.heap.size, 1, none⟩ = some (.bool false) := by rw [Lib.cell_of_heap hb]; rfl
      have c2 : w1.cell? ⟨w.heap.size, 2, none⟩ = some (.string ⟨#[]⟩) := by rw [Lib.cell_of_heap hb]; rfl
      have f0 := Lib.frozen_of_heap hb 0
      have f1 := Lib.frozen_of_heap hb 1
      have f2 := Lib.frozen_of_heap hb 2
      have HB1 := Lib.hid (((Below.refl _ w).alloc (Nat.le_refl _) _).trans (hB.mono (by simp)))
      clear hB hb C
      go_wp2
      refine bodyPost_ret (v := .tuple #[.agg #[.bool false, .bool false, .string p], .bool b]) (by simp [results, Tryd.results30, go_sem, c0, c1, c2, f0, f1, f2]) rfl ?_
      exact ⟨rfl, (((HB1.out.setCell (by simp) _).setCell (by simp) _).setCell (by simp) _)⟩
end Go.Proofs.YtlifdmehejehjaaDoor
