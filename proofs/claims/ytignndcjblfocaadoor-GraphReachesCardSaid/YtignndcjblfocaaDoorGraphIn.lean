/- A parameter that is a graph, as the walks read it; the reach bounds its rows. -/
import Derived.Test.YtignndcjblfocaaDoorGraphGreat
import Derived.Deep.Matrix
import Derived.ChangeArms
import Derived.WideShapes
import Derived.SizedLaws
import Derived.OpenShut
import Derived.Lib.SmallJoins
namespace Go.Proofs.YtignndcjblfocaaDoor
set_option linter.unusedVariables false
open Go.RowKit Go.ChangeShapes Go.Deep Go.Proofs.YtignndcjblfocaaDoor.GraphPlain
theorem Tryd.cellsGrInt : Tryd.prog.cellsOf 3 = 1 := by kernel_rfl
theorem Tryd.cellsGrInts : Tryd.prog.cellsOf 35 = 1 := by kernel_rfl
theorem Tryd.cellsGrRows : Tryd.prog.cellsOf 26 = 1 := by kernel_rfl
theorem Tryd.cellsGrNames : Tryd.prog.cellsOf 25 = 1 := by kernel_rfl
theorem Tryd.cellsGr : Tryd.prog.cellsOf 30 = 2 := by kernel_rfl
theorem Tryd.bytesGrInt : Tryd.prog.bytesOf 3 = 8 := by kernel_rfl
theorem weightsAll_mem {H : Type} {P : Program} {e : TypeId} {d : DataW H} {n : Nat} (hn : n ∈ d.weights P e) : ∀ {l : List (DataW H)}, d ∈ l → n ∈ DataW.weightsAll P e l
  | [], h => by cases h
  | x :: l, h => by
    unfold DataW.weightsAll
    rcases List.mem_cons.1 h with rfl | h
    · exact List.mem_append_left _ hn
    · exact List.mem_append_right _ (weightsAll_mem hn h)
theorem cell_blockG {w : World} {a : Addr} {v : Value} (h : w.cell? a = some v) : a.block < w.heap.size := by
  rcases Nat.lt_or_ge a.block w.heap.size with hlt | hge
  · exact hlt
  · exfalso
    have e : w.heap[a.block]? = none := Array.getElem?_eq_none hge
    simp [World.cell?, e] at h
section
variable {H : Type} {enc : TypeId × Value → H} {w : World} {base : Nat} {held : Bool}
/-- Rows of numbers, from one cell. -/
theorem rows_of {fuel : Nat} {c : Value} {x : DataW H × List MemPlace} (h : DataW.trod enc Tryd.prog w base (fun _ => true) held fuel 26 [c] = some x) (hz : ∀ n ∈ x.1.weights Tryd.prog 26, n ≤ reachBytes) :
    ∃ (A : Option Addr) (n cp : Nat) (R : List (List Int)), c = .slice A n cp ∧ GrAt w A n R ∧ n ≤ cp ∧ cp ≤ maxLen ∧ ∀ r ∈ R, r.length ≤ 17592186044416 := by
  rcases open_int_rows Tryd.underlying26 Tryd.underlying35 Tryd.underlying3 Tryd.cellsGrInts Tryd.cellsGrInt h with ⟨h1, _⟩ | ⟨a, len, cap, A, L, C, Z, h1, _, hl, hm, hx, hr⟩
  · simp only [List.cons.injEq, and_true] at h1
    exact ⟨none, 0, 0, [], h1, ⟨rfl, fun k hk => by omega⟩, Nat.le_refl _, Nat.zero_le _, fun r hr => by cases hr⟩
  · simp only [List.cons.injEq, and_true] at h1
    have hb : ∀ r, r < len → L r ≤ 17592186044416 := by
      intro r hrl
      obtain ⟨_, k1, _, k3, _, k5, _⟩ := hr r (by omega)
      cases hA : A r with
      | none => have := k5 hA; omega
      | some a' =>
        have hd : intRow (H := H) .i64 (A r) (L r) (Z r) ∈ (List.range len).map fun r => intRow (H := H) .i64 (A r) (L r) (Z r) := List.mem_map.2 ⟨r, List.mem_range.2 hrl, rfl⟩
        have hw : C r * 8 ∈ (intRow (H := H) .i64 (A r) (L r) (Z r)).weights Tryd.prog 35 := by
          rw [hA]
          unfold intRow
          simp only [DataW.weights, Tryd.underlying35, Tryd.bytesGrInt]
          have e : (lits (H := H) .i64 ((Z r).take (L r))).length + (lits (H := H) .i64 ((Z r).drop (L r))).length = C r := by
            simp [lits, k3]; omega
          rw [e]
          exact List.mem_cons_self ..
        have h2 := hz (C r * 8) (by
          rw [hx]
          simp only [DataW.weights, Tryd.underlying26]
          exact List.mem_cons_of_mem _ (List.mem_append_left _ (weightsAll_mem hw hd)))
        unfold reachBytes at h2
        omega
    refine ⟨some a, len, cap, (List.range len).map fun r => (Z r).take (L r), h1, ⟨by simp, fun k hk => ?_⟩, hl, hm, fun r hr' => ?_⟩
    · obtain ⟨k0, k1, _, k3, _, k5, k6⟩ := hr k (by omega)
      have hlen : ((Z k).take (L k)).length = L k := by rw [List.length_take]; omega
      refine ⟨a, A k, (Z k).take (L k), C k, rfl, by simp [hk], (by have := cell_blockG k0; rwa [addBlockT] at this), by rw [hlen]; exact k0, rfl, fun i hi => ?_⟩
      rw [hlen] at hi
      cases hA : A k with
      | none => have := k5 hA; omega
      | some a' =>
        have hc := (k6 a' hA).2 i (by omega)
        refine ⟨a', (Z k).getD i 0, rfl, ?_, ?_, hc⟩
        · rw [List.getElem?_take_of_lt hi, List.getD_eq_getElem?_getD, List.getElem?_eq_getElem (by omega)]; rfl
        · have := cell_blockG hc; rwa [addBlockT] at this
    · obtain ⟨k, hk, rfl⟩ := List.mem_map.1 hr'
      have := hb k (List.mem_range.1 hk)
      exact Nat.le_trans (List.length_take_le _ _) this
set_option maxRecDepth 100000 in
/-- A parameter of a graph. -/
theorem graph_of {r : Reach} {b0 : Nat} {v : Value} {d : DataW H} {ps : List MemPlace}
    (hval : Value.okWide Tryd.prog w r b0 30 v) (hd : DataW.Trod enc Tryd.prog w base (fun _ => true) held 30 v d ps) (hz : (DataW.weightsEach Tryd.prog [30] [d]).all (· ≤ reachBytes) = true) :
    ∃ (An : Option Addr) (nn cn : Nat) (At : Option Addr) (nt ct : Nat) (R : List (List Int)), v = grV An nn cn At nt ct ∧ GrAt w At nt R ∧ (∀ r ∈ R, r.length ≤ 17592186044416) ∧ nn ≤ maxLen ∧ nt ≤ maxLen := by
  have hz : ∀ n ∈ d.weights Tryd.prog 30, n ≤ reachBytes := fun n hn => by
    have := List.all_eq_true.1 hz n (by unfold DataW.weightsEach; exact List.mem_append_left _ hn)
    simpa using this
  obtain ⟨v0, v1, y0, y1, n, rfl, rfl, _, h0, h1⟩ := Joins.open_agg2 Tryd.underlying30 (by kernel_rfl) Tryd.cellsGr hval hd
  obtain ⟨nn, cn, An, e0, hnn⟩ : ∃ (nn cn : Nat) (An : Option Addr), v0 = .slice An nn cn ∧ nn ≤ maxLen := by
    rcases open_slice Tryd.underlying25 h0 with ⟨e1, e2⟩ | ⟨a, len, cap, m, n', D, Pl, e1, _, hl, hm, hmm, e2, hx⟩
    · simp only [List.cons.injEq, and_true] at e1
      exact ⟨0, 0, none, e1, Nat.zero_le _⟩
    · simp only [List.cons.injEq, and_true] at e1
      exact ⟨len, cap, some a, e1, Nat.le_trans hl hm⟩
  obtain ⟨At, nt, ct, R, rfl, hg, hle, hm, hb⟩ := rows_of h1 (fun n hn => hz n (by
    simp only [DataW.weights, Tryd.underlying30]
    exact DataW.weights_mem_each (j := 1) rfl rfl n hn))
  subst e0
  refine ⟨An, nn, cn, At, nt, ct, R, rfl, hg, hb, hnn, Nat.le_trans hle hm⟩
end
end Go.Proofs.YtignndcjblfocaaDoor
