/- A parameter of answers, as the walks read it. -/
import Derived.Test.YtkneafpmgbgalaaGreatDoorAns
import Derived.Deep.Strs
import Derived.Deep.Slices
import Derived.ChangeSlices
import Derived.WideShapes
import Derived.OpenShut
import Derived.WalkKit
namespace Go.Proofs.YtkneafpmgbgalaaGreatDoor
open Go.RowKit Go.ChangeShapes Go.Deep
set_option linter.unusedVariables false
set_option linter.unusedSimpArgs false
theorem Tryz.cellsAnA : Tryz.prog.cellsOf 51 = 3 := by kernel_rfl
theorem Tryz.cellsAnS : Tryz.prog.cellsOf 9 = 1 := by kernel_rfl
theorem Tryz.cellsAnB : Tryz.prog.cellsOf 4 = 1 := by kernel_rfl
theorem Tryz.cellsAnD : Tryz.prog.cellsOf 34 = 1 := by kernel_rfl
theorem Tryz.cellsAnU : Tryz.prog.cellsOf 5 = 1 := by kernel_rfl
theorem anCell_block {w : World} {a : Addr} {v : Value} (h : w.cell? a = some v) : a.block < w.heap.size := World.block_lt_of_cell? _ _ h
theorem choose_ltA {α : Type} {n : Nat} {P : Nat → α → Prop} (h : ∀ i, i < n → ∃ x, P i x) : ∃ l : List α, l.length = n ∧ ∀ i, i < n → ∃ x, l[i]? = some x ∧ P i x := by
  induction n with
  | zero => exact ⟨[], rfl, fun i hi => by omega⟩
  | succ n ih =>
    obtain ⟨l, hl, hp⟩ := ih (fun i hi => h i (by omega))
    obtain ⟨x, hx⟩ := h n (by omega)
    refine ⟨l ++ [x], by simp [hl], fun i hi => ?_⟩
    rcases Nat.lt_or_eq_of_le (Nat.lt_succ_iff.1 hi) with h1 | rfl
    · obtain ⟨y, hy, hpy⟩ := hp i h1
      exact ⟨y, by rw [List.getElem?_append_left (by omega)]; exact hy, hpy⟩
    · exact ⟨x, by rw [List.getElem?_append_right (by omega)]; simp [hl], hx⟩
section
variable {H : Type} {enc : TypeId × Value → H} {w : World} {base : Nat} {sp : Nat → Bool} {held : Bool}
set_option maxRecDepth 100000 in
theorem bytes_trod {fuel : Nat} {c : Value} {x : DataW H × List MemPlace} (hf : DataW.trod enc Tryz.prog w base sp held fuel 34 [c] = some x) :
    ∃ (A : Option Addr) (n cp : Nat) (xs : List Int), c = .slice A n cp ∧ n ≤ cp ∧ cp ≤ 9223372036854775807 ∧ BytesAt w A n xs := by
  rcases Go.ChangeShapes.open_ints Tryz.underlying34 Tryz.underlying5 Tryz.cellsAnU hf with ⟨hcs, _⟩ | ⟨x, l, c, zs, hcs, _, hl, hm, hz, _, hcell, hwz⟩
  · simp at hcs
    subst hcs
    exact ⟨none, 0, 0, [], rfl, by omega, by omega, rfl, fun k hk => by omega⟩
  · simp at hcs
    subst hcs
    have hzl : l ≤ zs.length := by rw [hz]; split <;> omega
    refine ⟨some x, l, c, zs.take l, rfl, hl, by simpa [maxLen] using hm, by rw [List.length_take]; omega, fun k hk => ?_⟩
    have hlt : k < zs.length := by omega
    have hb := bounds_u8 (hwz zs[k] (List.getElem_mem _))
    have hc := hcell k hlt
    have hblk := anCell_block hc
    rw [addBlock] at hblk
    refine ⟨x, zs[k], rfl, by rw [List.getElem?_take, if_pos hk]; exact List.getElem?_eq_getElem hlt, by omega, by omega, hblk, ?_⟩
    rw [hc, List.getD_eq_getElem?_getD, List.getElem?_eq_getElem hlt]; rfl
set_option maxRecDepth 100000 in
theorem an_of {fuel : Nat} {cs : List Value} {x : DataW H × List MemPlace} (h : DataW.trod enc Tryz.prog w base sp held fuel 51 cs = some x) :
    ∃ e : An, cs = [.string e.id, .bool e.ok, .slice e.D e.n e.c] ∧ AnOk w e := by
  obtain ⟨ys, n, _, rfl, hlen, hyl, hf⟩ := DataW.trod_struct Tryz.underlying51 h
  rw [Tryz.cellsAnA] at hlen
  have f0 := hf 0 _ rfl
  have f1 := hf 1 _ rfl
  have f2 := hf 2 _ rfl
  match cs, hlen with
  | [c0, c1, c2], _ =>
    simp only [List.getElem_toArray, List.getElem_cons_zero, List.getElem_cons_succ, Tryz.cellsAnS, Tryz.cellsAnB, Tryz.cellsAnD, List.drop_zero, List.take_succ_cons, List.take_zero, List.drop_succ_cons] at f0 f1 f2
    match ys, hyl with
    | [y0, y1, y2], _ =>
      obtain ⟨s0, h0, _⟩ := DataW.trod_string Tryz.underlying9 f0
      obtain ⟨b1, h1, g1⟩ := DataW.trod_bool Tryz.underlying4 f1
      obtain ⟨A, m, c, xs, h2, hm, hc, hb⟩ := bytes_trod f2
      simp only [List.cons.injEq, and_true] at h0 h1
      subst h0 h1 h2
      exact ⟨⟨s0, b1, A, m, c, xs⟩, rfl, hb, hm, hc⟩
set_option maxRecDepth 100000 in
/-- A parameter of answers. -/
theorem ans_arg {r : Reach} {b0 : Nat} {v : Value} {d : DataW H} {ps : List MemPlace}
    (hval : Value.okWide Tryz.prog w r b0 25 v) (hd : DataW.Trod enc Tryz.prog w base sp held 25 v d ps) :
    ∃ (A : Option Addr) (n cp : Nat) (l : List An), v = .slice A n cp ∧ AnsAt w A n l ∧ n ≤ cp ∧ cp ≤ 9223372036854775807 := by
  obtain ⟨A, n, cp, rfl⟩ := Go.WideShapes.okWide_slice Tryz.underlying25 hval
  obtain ⟨fuel, hf⟩ := hd
  rcases open_slice Tryz.underlying25 hf with ⟨h1, h2⟩ | ⟨a, len, cap, m, n', D, Pl, h1, _, hl, hm, hmm, h2, hx⟩
  · simp [Value.cells] at h1
    obtain ⟨rfl, rfl, rfl⟩ := h1
    exact ⟨none, 0, 0, [], rfl, ⟨rfl, fun i hi => by omega⟩, by omega, by omega⟩
  · simp [Value.cells] at h1
    obtain ⟨rfl, rfl, rfl⟩ := h1
    have hle : n ≤ m := by rw [hmm]; split <;> omega
    have hch : ∀ i, i < n → ∃ e : An, AnAt w (a.add (i * 3)) e ∧ AnOk w e := fun i hi => by
      obtain ⟨cs', hc, ht⟩ := hx i (by omega)
      rw [Tryz.cellsAnA] at hc
      obtain ⟨_, hcl, hat⟩ := World.cells?_some hc
      obtain ⟨e, rfl, hok⟩ := an_of ht
      have g0 := hat 0 (by decide)
      have g1 := hat 1 (by decide)
      have g2 := hat 2 (by decide)
      have g0' : w.cell? (a.add (i * 3)) = some (.string e.id) := by simpa [Addr.add] using g0
      exact ⟨e, ⟨World.block_lt_of_cell? _ _ g0', g0', by simpa [Addr.add] using g1, by simpa [Addr.add] using g2⟩, hok⟩
    obtain ⟨l, hll, hp⟩ := choose_ltA hch
    refine ⟨some a, n, cp, l, rfl, ⟨hll, fun i hi => ?_⟩, hl, by simpa [maxLen] using hm⟩
    obtain ⟨x, hx1, hx2⟩ := hp i hi
    exact ⟨a, x, rfl, hx1, hx2⟩
end
end Go.Proofs.YtkneafpmgbgalaaGreatDoor
