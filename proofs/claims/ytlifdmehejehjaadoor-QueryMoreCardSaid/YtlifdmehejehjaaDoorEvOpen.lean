/- A parameter of events, as the walks read it, with a bound on what it holds. -/
import Derived.Test.YtlifdmehejehjaaDoorEvPlain
import Derived.Test.YtlifdmehejehjaaDoorRows
import Derived.Deep.Slices
import Derived.ChangeArms
import Derived.WideShapes
import Derived.OpenShut
namespace Go.Proofs.YtlifdmehejehjaaDoor
open Go.RowKit Go.ChangeShapes Go.Deep
set_option maxRecDepth 100000
theorem Tryd.cellsEvInt : Tryd.prog.cellsOf 3 = 1 := by kernel_rfl
theorem Tryd.cellsEvString : Tryd.prog.cellsOf 9 = 1 := by kernel_rfl
theorem Tryd.cellsEvName : Tryd.prog.cellsOf 37 = 2 := by kernel_rfl
theorem Tryd.cellsEvAttrs : Tryd.prog.cellsOf 38 = 1 := by kernel_rfl
theorem Tryd.cellsEvAttr : Tryd.prog.cellsOf 80 = 3 := by kernel_rfl
theorem Tryd.cellsEvent : Tryd.prog.cellsOf 40 = 5 := by kernel_rfl
theorem evCell_block {w : World} {a : Addr} {v : Value} (h : w.cell? a = some v) : a.block < w.heap.size := by
  rcases Nat.lt_or_ge a.block w.heap.size with hlt | hge
  · exact hlt
  · exfalso
    have e : w.heap[a.block]? = none := Array.getElem?_eq_none hge
    simp [World.cell?, e] at h
theorem bulk_append {H : Type} (l r : List (DataW H)) : Rows.uptoBulkAll (l ++ r) = Rows.uptoBulkAll l + Rows.uptoBulkAll r := by
  induction l with
  | nil => simp [Rows.uptoBulkAll]
  | cons x l ih => simp only [List.cons_append, Rows.uptoBulkAll, ih]; omega
theorem bulk_map {H : Type} (D : Nat → DataW H) (f : Nat → Nat) (n : Nat) (h : ∀ i, i < n → f i ≤ Rows.uptoBulk (D i)) : ((List.range n).map f).sum ≤ Rows.uptoBulkAll ((List.range n).map D) := by
  induction n with
  | zero => simp [Rows.uptoBulkAll]
  | succ n ih =>
    rw [List.range_succ, List.map_append, List.map_append, List.sum_append, bulk_append]
    have h1 := ih fun i hi => h i (by omega)
    have h2 := h n (by omega)
    simp [Rows.uptoBulkAll]
    omega
theorem sum_succ (F : Nat → At) (n : Nat) : ((List.range n).map fun i => (F i).size + 1).sum = atSum ((List.range n).map F) + n := by
  induction n with
  | zero => rfl
  | succ n ih => rw [List.range_succ, List.map_append, List.map_append, List.sum_append, ih]; simp [atSum]; omega
theorem sum_succ2 (F : Nat → Ev) (n : Nat) : ((List.range n).map fun i => (F i).all + 1).sum = evSum ((List.range n).map F) + n := by
  induction n with
  | zero => rfl
  | succ n ih => rw [List.range_succ, List.map_append, List.map_append, List.sum_append, ih]; simp [evSum]; omega
section
variable {H : Type} {enc : TypeId × Value → H} {w : World} {base : Nat} {sp : Nat → Bool} {held : Bool}
/-- The two strings of a name. -/
theorem name_of {fuel : Nat} {c0 c1 : Value} {x : DataW H × List MemPlace} (h : DataW.trod enc Tryd.prog w base sp held fuel 37 [c0, c1] = some x) :
    ∃ s l : ByteArray, c0 = .string s ∧ c1 = .string l ∧ s.size + l.size + 3 ≤ Rows.uptoBulk x.1 := by
  obtain ⟨ys, n, _, rfl, _, hyl, hf⟩ := DataW.trod_struct Tryd.underlying37 h
  have f0 := hf 0 _ rfl
  have f1 := hf 1 _ rfl
  simp only [List.getElem_toArray, List.getElem_cons_zero, List.getElem_cons_succ, Tryd.cellsEvString, List.drop_zero, List.take_succ_cons, List.take_zero, List.drop_succ_cons] at f0 f1
  match ys, hyl with
  | [y0, y1], _ =>
    obtain ⟨s, h1, h2, _⟩ := DataW.trod_string Tryd.underlying9 f0
    obtain ⟨l, h3, h4, _⟩ := DataW.trod_string Tryd.underlying9 f1
    simp only [List.cons.injEq, and_true] at h1 h3
    refine ⟨s, l, h1, h3, ?_⟩
    subst h2 h4
    simp only [Rows.uptoBulk, Rows.uptoBulkAll, List.map_cons, List.map_nil, Array.length_toList, ByteArray.size_data]
    omega
theorem attr_of {fuel : Nat} {cs : List Value} {x : DataW H × List MemPlace} (h : DataW.trod enc Tryd.prog w base sp held fuel 80 cs = some x) :
    ∃ e : At, cs = [.string e.sp, .string e.lo, .string e.va] ∧ e.size + 1 ≤ Rows.uptoBulk x.1 := by
  obtain ⟨ys, n, _, rfl, hlen, hyl, hf⟩ := DataW.trod_struct Tryd.underlying80 h
  rw [Tryd.cellsEvAttr] at hlen
  have f0 := hf 0 _ rfl
  have f1 := hf 1 _ rfl
  match cs, hlen with
  | [c0, c1, c2], _ =>
    simp only [List.getElem_toArray, List.getElem_cons_zero, List.getElem_cons_succ, Tryd.cellsEvString, Tryd.cellsEvName, List.drop_zero, List.take_succ_cons, List.take_zero, List.drop_succ_cons] at f0 f1
    match ys, hyl with
    | [y0, y1], _ =>
      obtain ⟨s, l, rfl, rfl, hb⟩ := name_of f0
      obtain ⟨v, h3, h4, _⟩ := DataW.trod_string Tryd.underlying9 f1
      simp only [List.cons.injEq, and_true] at h3
      subst h3
      refine ⟨⟨s, l, v⟩, rfl, ?_⟩
      subst h4
      simp only [Rows.uptoBulk, Rows.uptoBulkAll, At.size, List.map_cons, List.map_nil, Array.length_toList, ByteArray.size_data] at hb ⊢
      omega
theorem attrs_of {fuel : Nat} {c : Value} {x : DataW H × List MemPlace} (h : DataW.trod enc Tryd.prog w base sp held fuel 38 [c] = some x) :
    ∃ (A : Option Addr) (n cp : Nat) (l : List At), c = .slice A n cp ∧ AtsAt w A n l ∧ n ≤ cp ∧ cp ≤ 9223372036854775807 ∧ atSum l + n ≤ Rows.uptoBulk x.1 := by
  rcases open_slice Tryd.underlying38 h with ⟨h1, h2⟩ | ⟨a, len, cap, m, n, D, Pl, h1, _, hl, hm, hmm, h2, hx⟩
  · simp only [List.cons.injEq, and_true] at h1
    refine ⟨none, 0, 0, [], h1, ⟨rfl, fun i hi => by omega⟩, by omega, by omega, by simp [atSum]⟩
  · simp only [List.cons.injEq, and_true] at h1
    have hle : len ≤ m := by rw [hmm]; split <;> omega
    have hch : ∀ i, i < len → ∃ e : At, AtAt w (a.add (i * 3)) e ∧ e.size + 1 ≤ Rows.uptoBulk (D i) := fun i hi => by
      obtain ⟨cs', hc, ht⟩ := hx i (by omega)
      rw [Tryd.cellsEvAttr] at hc
      obtain ⟨_, hcl, hat⟩ := World.cells?_some hc
      obtain ⟨e, rfl, hb⟩ := attr_of ht
      have g0 := hat 0 (by omega)
      have g1 := hat 1 (by omega)
      have g2 := hat 2 (by omega)
      simp [Addr.add] at g0 g1 g2
      exact ⟨e, ⟨evCell_block (hat 0 (by omega)), by simpa [Addr.add] using g0, by simpa [Addr.add] using g1, by simpa [Addr.add] using g2⟩, hb⟩
    obtain ⟨F, hF⟩ := choose_lt hch
    refine ⟨some a, len, cap, (List.range len).map F, h1, ⟨by simp, fun i hi => ⟨a, F i, rfl, by simp [hi], (hF i hi).1⟩⟩, hl, by simpa [maxLen] using hm, ?_⟩
    have hb := bulk_map D (fun i => (F i).size + 1) len fun i hi => (hF i hi).2
    have hs : ((List.range len).map fun i => (F i).size + 1).sum = atSum ((List.range len).map F) + len := sum_succ F len
    rw [h2]
    simp only [Rows.uptoBulk]
    omega
/-- One event, from its five cells. -/
theorem event_of {fuel : Nat} {cs : List Value} {x : DataW H × List MemPlace} (h : DataW.trod enc Tryd.prog w base sp held fuel 40 cs = some x) :
    ∃ e : Ev, cs = [.int .i64 e.k, .string e.sp, .string e.lo, .slice e.A e.n e.c, .string e.tx] ∧ EvOk w e ∧ -9223372036854775808 ≤ e.k ∧ e.k ≤ 9223372036854775807 ∧ e.all + 1 ≤ Rows.uptoBulk x.1 := by
  obtain ⟨ys, n, _, rfl, hlen, hyl, hf⟩ := DataW.trod_struct Tryd.underlying40 h
  rw [Tryd.cellsEvent] at hlen
  have f0 := hf 0 _ rfl
  have f1 := hf 1 _ rfl
  have f2 := hf 2 _ rfl
  have f3 := hf 3 _ rfl
  match cs, hlen with
  | [c0, c1, c2, c3, c4], _ =>
    simp only [List.getElem_toArray, List.getElem_cons_zero, List.getElem_cons_succ, Tryd.cellsEvInt, Tryd.cellsEvString, Tryd.cellsEvName, Tryd.cellsEvAttrs, List.drop_zero, List.take_succ_cons, List.take_zero, List.drop_succ_cons] at f0 f1 f2 f3
    match ys, hyl with
    | [y0, y1, y2, y3], _ =>
      obtain ⟨k, h0, h00, hk⟩ := DataW.trod_int Tryd.underlying3 f0
      obtain ⟨s, l, rfl, rfl, hb⟩ := name_of f1
      obtain ⟨A, m, cp, ats, rfl, hats, hle, hcp, hba⟩ := attrs_of f2
      obtain ⟨v, h3, h4, _⟩ := DataW.trod_string Tryd.underlying9 f3
      simp only [List.cons.injEq, and_true] at h0 h3
      subst h0 h3
      have hb0 := bounds_i64 hk
      refine ⟨⟨k, s, l, A, m, cp, v, ats⟩, rfl, ⟨hats, hle, hcp⟩, hb0.1, hb0.2, ?_⟩
      subst h4 h00
      simp only [Rows.uptoBulk, Rows.uptoBulkAll, Ev.all, Ev.size, List.map_cons, List.map_nil, Array.length_toList, ByteArray.size_data] at hb hba ⊢
      omega
/-- A parameter of events. -/
theorem events_of {r : Reach} {b0 : Nat} {v : Value} {d : DataW H} {ps : List MemPlace}
    (hval : Value.okWide Tryd.prog w r b0 30 v) (hd : DataW.Trod enc Tryd.prog w base sp held 30 v d ps) :
    ∃ (A : Option Addr) (n cp : Nat) (l : List Ev), v = .slice A n cp ∧ EvsAt w A n l ∧ n ≤ cp ∧ cp ≤ 9223372036854775807 ∧ (∀ e ∈ l, -9223372036854775808 ≤ e.k ∧ e.k ≤ 9223372036854775807) ∧ evSum l + n ≤ Rows.uptoBulk d := by
  obtain ⟨A, n, cp, rfl⟩ := Go.WideShapes.okWide_slice Tryd.underlying30 hval
  obtain ⟨fuel, hf⟩ := hd
  rcases open_slice Tryd.underlying30 hf with ⟨h1, h2⟩ | ⟨a, len, cap, m, n', D, Pl, h1, _, hl, hm, hmm, h2, hx⟩
  · simp [Value.cells] at h1
    obtain ⟨rfl, rfl, rfl⟩ := h1
    exact ⟨none, 0, 0, [], rfl, ⟨rfl, fun i hi => by omega⟩, by omega, by omega, by simp, by simp [evSum]⟩
  · simp [Value.cells] at h1
    obtain ⟨rfl, rfl, rfl⟩ := h1
    have hle : n ≤ m := by rw [hmm]; split <;> omega
    have hch : ∀ i, i < n → ∃ e : Ev, (EvAt w (a.add (i * 5)) e ∧ EvOk w e) ∧ (-9223372036854775808 ≤ e.k ∧ e.k ≤ 9223372036854775807) ∧ e.all + 1 ≤ Rows.uptoBulk (D i) := fun i hi => by
      obtain ⟨cs', hc, ht⟩ := hx i (by omega)
      rw [Tryd.cellsEvent] at hc
      obtain ⟨_, hcl, hat⟩ := World.cells?_some hc
      obtain ⟨e, rfl, hok, hk1, hk2, hb⟩ := event_of ht
      have g0 := hat 0 (by omega)
      have g1 := hat 1 (by omega)
      have g2 := hat 2 (by omega)
      have g3 := hat 3 (by omega)
      have g4 := hat 4 (by omega)
      exact ⟨e, ⟨⟨evCell_block (by simpa [Addr.add] using g0), by simpa [Addr.add] using g0, by simpa [Addr.add] using g1, by simpa [Addr.add] using g2, by simpa [Addr.add] using g3, by simpa [Addr.add] using g4⟩, hok⟩, ⟨hk1, hk2⟩, hb⟩
    obtain ⟨F, hF⟩ := choose_lt hch
    refine ⟨some a, n, cp, (List.range n).map F, rfl, ⟨by simp, fun i hi => ⟨a, F i, rfl, by simp [hi], (hF i hi).1⟩⟩, hl, by simpa [maxLen] using hm, fun e he => ?_, ?_⟩
    · obtain ⟨i, hi, rfl⟩ := List.mem_map.1 he
      exact (hF i (List.mem_range.1 hi)).2.1
    · have hb := bulk_map D (fun i => (F i).all + 1) n fun i hi => (hF i hi).2.2
      have hs : ((List.range n).map fun i => (F i).all + 1).sum = evSum ((List.range n).map F) + n := sum_succ2 F n
      simp only [Prod.mk.injEq] at h2
      rw [h2.1]
      simp only [Rows.uptoBulk]
      omega
end
end Go.Proofs.YtlifdmehejehjaaDoor
