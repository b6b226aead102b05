/- The contract of oracle.copied: an answer with bytes of its own. Conditions: at most 2^20 bytes. -/
import Derived.Test.YtkneafpmgbgalaaGreatDoorAns
import Derived.Laws.CopyOwn
import Derived.Laws.OwnMore
import Derived.Deep.Cut
import Derived.WideShapes
namespace Go.Proofs.YtkneafpmgbgalaaGreatDoor
open Go.RowKit
set_option linter.unusedVariables false
set_option linter.unusedSimpArgs false
theorem Tryz.infoU8 : (Tryz.prog.info? 5).map (fun i => (i.zero, i.size, i.bytes)) = some (some (.int .u8 0), 1, 1) := by kernel_rfl
theorem info_partsO {o : Option TypeInfo} {z : Option Value} {s b : Nat} (h : o.map (fun i => (i.zero, i.size, i.bytes)) = some (z, s, b)) : ∃ i, o = some i ∧ i.zero = z ∧ i.size = s ∧ i.bytes = b := by
  cases o with
  | none => cases h
  | some i => simp at h; exact ⟨i, rfl, h.1, h.2.1, h.2.2⟩
def TellAn (x : An) (w : World) (e : Ending) (w' : World) : Prop := ∃ y : An, e = .returned (.agg #[.string y.id, .bool y.ok, .slice y.D y.n y.c]) ∧ y.pl = x.pl ∧ FreshD w' w.heap.size y ∧ Below w.heap.size w w'
theorem bytes_range {w : World} {A : Option Addr} {n : Nat} {xs : List Int} (h : BytesAt w A n xs) : ∀ b ∈ xs, 0 ≤ b ∧ b ≤ 255 := by
  intro b hb
  obtain ⟨i, hi, rfl⟩ := List.getElem_of_mem hb
  obtain ⟨a, x, _, h2, h3, h4, _⟩ := h.2 i (by rw [← h.1]; exact hi)
  rw [List.getElem?_eq_getElem hi] at h2
  cases h2
  exact ⟨h3, h4⟩
set_option maxRecDepth 100000 in
set_option maxHeartbeats 4000000 in
theorem copied_any (x : An) (w : World) (hok : AnOk w x) (hn : x.n ≤ 1048576) :
    Calls Tryz.prog 36 #[.agg #[.string x.id, .bool x.ok, .slice x.D x.n x.c]] w (TellAn x w) := by
  obtain ⟨i0, hi0, hz0, hz1, hz2⟩ := info_partsO Tryz.infoU8
  obtain ⟨W1, hW1⟩ : ∃ W1, W1 = (w.alloc (.cells #[.string x.id, .bool x.ok, .slice x.D x.n x.c] 51)).alloc (.cells #[.string ⟨#[]⟩, .bool false, .slice none 0 0] 51) := ⟨_, rfl⟩
  have hB1 : Below w.heap.size w W1 := by rw [hW1]; exact ((Below.refl _ _).alloc (Nat.le_refl _) _).alloc (by simp) _
  have hs1 : W1.heap.size = w.heap.size + 2 := by rw [hW1]; simp
  have k0 : W1.heap[w.heap.size]? = some (.cells #[.string x.id, .bool x.ok, .slice x.D x.n x.c] 51 (0, 0)) := by
    rw [hW1]
    have h := heap_alloc_new w (.cells #[.string x.id, .bool x.ok, .slice x.D x.n x.c] 51)
    exact (((Below.refl (w.heap.size + 1) _).alloc (by simp) _).block w.heap.size (by omega)).trans h
  have k1 : W1.heap[w.heap.size + 1]? = some (.cells #[.string ⟨#[]⟩, .bool false, .slice none 0 0] 51 (0, 0)) := by
    rw [hW1]
    have h := heap_alloc_new (w.alloc (.cells #[.string x.id, .bool x.ok, .slice x.D x.n x.c] 51)) (.cells #[.string ⟨#[]⟩, .bool false, .slice none 0 0] 51)
    simpa using h
  have hby := hok.1.below hB1
  have hbr := bytes_range hby
  have hnc := hok.2
  have HW1 := Lib.hid hW1
  have HB1 := Lib.hid hB1
  have HS1 := Lib.hid hs1
  have K0 := Lib.hid k0
  have K1 := Lib.hid k1
  have HBY := Lib.hid hby
  have HBR := Lib.hid hbr
  have c2 : W1.cell? ⟨w.heap.size, 2, none⟩ = some (.slice x.D x.n x.c) := by rw [Lib.cell_of_heap k0]; rfl
  clear hW1 hB1 hs1 k0 k1 hok hby hbr
  go_enter Tryz.func36, Tryz.ntmps36
  go_upto_region 1 with (fail)
  rw [← HW1.out]
  have hmx : x.n ≤ maxLen := by unfold maxLen; omega
  have hby1 : i0.bytes * x.n ≤ 281474976710656 := by rw [hz2]; omega
  have hb4 : w.heap.size ≤ W1.heap.size := by rw [HS1.out]; omega
  go_wp2_with (at_make; refine wpList_make_full _ rfl (.tmp 6) (.tmp 6) 34 rfl w.heap.size 5 i0 (.int .u8 0) 1 Tryz.underlying34 hi0 hz0 hz1 .i64 .i64 x.n x.n x.n rfl rfl rfl rfl hby1 hmx hb4 ?_)
  intro w2 hown hgrow
  have hrow : w2.heap[W1.heap.size]? = some (.cells (madeCells #[.int .u8 0] x.n) 5 (0, 0)) := by
    rcases hown.2 with ⟨h, _⟩ | ⟨g, cap, cur, hv, _, hh, _, _, hcs, ht⟩
    · cases h
    · cases hv
      rw [hh]
      have : cur.toList = (madeCells #[.int .u8 0] x.n).toList := by have h2 := ht; rw [List.take_of_length_le (by rw [Array.length_toList, hcs]; exact Nat.le_refl _)] at h2; exact h2
      rw [Array.toList_inj.1 this]
  have hlen : (madeCells #[(.int .u8 0 : Value)] x.n).toList.length = x.n := by simp [madeCells]
  generalize hmc : (madeCells #[(.int .u8 0 : Value)] x.n).toList = mc at *
  have hrow : w2.heap[W1.heap.size]? = some (.cells mc.toArray 5 (0, 0)) := by rw [hrow, ← hmc]
  have hB2 : Below w.heap.size w w2 := HB1.out.grown hgrow HB1.out.size (fun k e => by cases e)
  have k0 : w2.heap[w.heap.size]? = _ := (hgrow.block _ (by rw [HS1.out]; omega) (by simp)).trans K0.out
  have k1 : w2.heap[w.heap.size + 1]? = _ := (hgrow.block _ (by rw [HS1.out]; omega) (by simp)).trans K1.out
  have c2' : w2.cell? ⟨w.heap.size, 2, none⟩ = some (.slice x.D x.n x.c) := by rw [Lib.cell_of_heap k0]; rfl
  have hsrc : 0 < (byteCells x.da).length → (some (⟨W1.heap.size, 0, none⟩ : Addr)) = some ⟨W1.heap.size, 0, none⟩ ∧ ∃ ad, x.D = some ad ∧ ∀ j v, (byteCells x.da)[j]? = some v → w2.cell? (ad.add j) = some v := by
    intro hp
    refine ⟨rfl, ?_⟩
    have hp2 : 0 < x.n := by rw [← HBY.out.1]; simpa [byteCells] using hp
    obtain ⟨ad, x0, hD, _⟩ := HBY.out.2 0 hp2
    refine ⟨ad, hD, fun j v hj => ?_⟩
    unfold byteCells at hj
    rw [List.getElem?_map] at hj
    cases hx : x.da[j]? with
    | none => rw [hx] at hj; cases hj
    | some b =>
      rw [hx] at hj
      cases hj
      have hj2 : j < x.n := by rw [← HBY.out.1]; exact (List.getElem?_eq_some_iff.1 hx).1
      obtain ⟨ad', b', hD', hb', _, _, hlt, hc⟩ := HBY.out.2 j hj2
      rw [hD] at hD'; cases hD'
      rw [hx] at hb'; cases hb'
      exact hgrow.cell hc (by simp)
  have HRO := Lib.hid hrow
  have HB2 := Lib.hid hB2
  have K0 := Lib.hid k0
  have K1 := Lib.hid k1
  have HSR := Lib.hid hsrc
  have hbl : (byteCells x.da).length = Nat.min x.n x.n := by show _ = min x.n x.n; rw [Nat.min_self, ← HBY.out.1]; simp [byteCells]
  have HBL := Lib.hid hbl
  have HLE := Lib.hid hlen
  have hlt0 : w.heap.size < W1.heap.size := by rw [HS1.out]; omega
  clear hown hgrow hrow hB2 k0 k1 hsrc hbl hlen c2 hmc
  have hone : ∀ v ∈ byteCells x.da, v.oneCell' = true := by intro v hv; obtain ⟨b, _, rfl⟩ := List.mem_map.1 hv; rfl
  have hfit : 0 + (byteCells x.da).length ≤ mc.length := by rw [HLE.out, HBL.out]; show 0 + min x.n x.n ≤ x.n; omega
  have hu8 : (Tryz.prog.info? 5).map (·.size) = some 1 := by rw [hi0]; simp [hz1]
  have HON := Lib.hid hone
  have HFI := Lib.hid hfit
  obtain ⟨cs, hcs⟩ : ∃ cs, cs = byteCells x.da := ⟨_, rfl⟩
  rw [← hcs] at HSR HBL HON HFI
  have HCS := Lib.hid hcs
  have HU8 := Lib.hid hu8
  clear hone hfit hcs hu8
  go_wp2_with (with_reducible refine wpList_copy_splice rfl (.tmp 8) (.tmp 10) 34 34 rfl 5 Tryz.underlying34 HU8.out (some ⟨W1.heap.size, 0, none⟩) x.D x.n x.n x.n x.c rfl rfl W1.heap.size 0 mc 5 HRO.out cs HBL.out HSR.out HFI.out HON.out W1.heap.size w2 (Below.refl _ _) (Nat.le_refl _) ?_)
  intro w3 hrow3 hB3
  have k0 : w3.heap[w.heap.size]? = _ := (hB3.block _ hlt0).trans K0.out
  have k1 : w3.heap[w.heap.size + 1]? = _ := (hB3.block _ (by rw [HS1.out]; omega)).trans K1.out
  have hsp : splice mc 0 cs = cs := by
    unfold splice
    rw [List.take_zero, List.nil_append, Nat.zero_add, List.drop_eq_nil_of_le (by rw [HLE.out, HBL.out]; show x.n ≤ min x.n x.n; omega), List.append_nil]
  have hrow4 := hrow3.out
  rw [hsp, HCS.out] at hrow4
  have HR4 := Lib.hid hrow4
  have HB3 := Lib.hid (HB2.out.trans (hB3.mono (Nat.le_of_lt hlt0)))
  have c0 : w3.cell? ⟨w.heap.size, 0, none⟩ = some (.string x.id) := by rw [Lib.cell_of_heap k0]; rfl
  have c1 : w3.cell? ⟨w.heap.size, 1, none⟩ = some (.bool x.ok) := by rw [Lib.cell_of_heap k0]; rfl
  have c2 : w3.cell? ⟨w.heap.size, 2, none⟩ = some (.slice x.D x.n x.c) := by rw [Lib.cell_of_heap k0]; rfl
  have f2 := Lib.frozen_of_heap k0 2
  have d0 : w3.cell? ⟨w.heap.size + 1, 0, none⟩ = some (.string ⟨#[]⟩) := by rw [Lib.cell_of_heap k1]; rfl
  have d1 : w3.cell? ⟨w.heap.size + 1, 1, none⟩ = some (.bool false) := by rw [Lib.cell_of_heap k1]; rfl
  have d2 : w3.cell? ⟨w.heap.size + 1, 2, none⟩ = some (.slice none 0 0) := by rw [Lib.cell_of_heap k1]; rfl
  have g0 := Lib.frozen_of_heap k1 0
  have g1 := Lib.frozen_of_heap k1 1
  have g2 := Lib.frozen_of_heap k1 2
  have HLT := Lib.hid hlt0
  clear hB3 k0 k1 hsp hrow4 hrow3
  go_wp2
  refine bodyPost_ret (v := .agg #[.string x.id, .bool x.ok, .slice (some ⟨W1.heap.size, 0, none⟩) x.n x.n]) (by simp [results, Tryz.results36, go_sem, c0, c1, c2, f2, d0, d1, d2, g0, g1, g2]) rfl ?_
  have hl2 : W1.heap.size = w.heap.size + 2 := HS1.out
  refine ⟨⟨x.id, x.ok, some ⟨W1.heap.size, 0, none⟩, x.n, x.n, x.da⟩, rfl, rfl, ⟨W1.heap.size, rfl, Nat.le_of_lt HLT.out, ?_, HBY.out.1, Nat.le_refl _, by show x.n ≤ _; omega, HBR.out⟩, ((((HB3.out.setCell (by simp) _).setCell (by simp) _).setCell (by simp) _).setCell (by simp) _)⟩
  rw [Below.heap_setCell _ _ _ _ (by show _ ≠ _; simp; omega), Below.heap_setCell _ _ _ _ (by show _ ≠ _; simp; omega), Below.heap_setCell _ _ _ _ (by show _ ≠ _; simp; omega), Below.heap_setCell _ _ _ _ (by show _ ≠ _; simp; omega)]
  exact HR4.out
end Go.Proofs.YtkneafpmgbgalaaGreatDoor
