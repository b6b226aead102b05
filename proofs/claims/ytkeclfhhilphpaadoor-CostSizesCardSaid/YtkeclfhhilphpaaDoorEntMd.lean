/- Merged texts: EntMuch, GraphGreat, GraphIn, EntIn. -/
import Derived.Test.YtkeclfhhilphpaaDoorEntRef
import Derived.Test.YtkeclfhhilphpaaDoorGraphRRight
import Derived.Deep.Matrix
import Derived.ChangeArms
import Derived.WideShapes
import Derived.SizedLaws
import Derived.OpenShut
import Derived.Lib.SmallJoins
/- The reference's Much. Conditions: texts within the reach. -/
namespace Go.Proofs.YtkeclfhhilphpaaDoor
set_option linter.unusedSimpArgs false
set_option linter.unusedVariables false
open Go.RowKit Go.Maps Go.Proofs.YtkeclfhhilphpaaDoor.GraphPlain Go.Proofs.YtkeclfhhilphpaaDoor.RefPlain
def sumX (l : List Ent) : Nat := (l.map fun e => e.tx.size).sum
def muchN (n : Nat) (l : List Ent) : Bool := decide (24 < n) || decide (1500 < sumX (l.take 50))
theorem sumX_next {l : List Ent} {k : Nat} {e : Ent} (h : l[k]? = some e) : sumX (l.take (k + 1)) = sumX (l.take k) + e.tx.size := by
  unfold sumX
  rw [List.take_add_one, h]
  simp
theorem sumX_mem {l : List Ent} {e : Ent} (h : e ∈ l) : e.tx.size ≤ sumX l := by
  unfold sumX
  induction l with
  | nil => cases h
  | cons x l ih =>
    rw [List.map_cons, List.sum_cons]
    rcases List.mem_cons.1 h with rfl | h
    · omega
    · have := ih h; omega
theorem sumX_bound {l : List Ent} {M : Nat} (h : ∀ e ∈ l, e.tx.size ≤ M) : ∀ k, sumX (l.take k) ≤ k * M := by
  intro k
  induction k with
  | zero => simp [sumX]
  | succ k ih =>
    cases hx : l[k]? with
    | none =>
      have e : l.take (k + 1) = l.take k := by rw [List.take_add_one, hx]; simp
      rw [e, Nat.succ_mul]; omega
    | some r =>
      have := h r (List.mem_of_getElem? hx)
      rw [sumX_next hx, Nat.succ_mul]; omega
theorem muchN_no {n : Nat} {l : List Ent} (hl : l.length = n) (h : muchN n l = false) : n ≤ 24 ∧ ∀ e ∈ l, e.tx.size ≤ 1500 := by
  unfold muchN at h
  simp only [Bool.or_eq_false_iff, decide_eq_false_iff_not] at h
  have : l.take 50 = l := List.take_of_length_le (by omega)
  rw [this] at h
  exact ⟨by omega, fun e he => by have := sumX_mem he; omega⟩
set_option maxHeartbeats 4000000 in
set_option maxRecDepth 100000 in
theorem rmuch_any (A : Option Addr) (n c : Nat) (l : List Ent) (w : World) (hl : EntsAt w A n l) (hs : ∀ e ∈ l, e.tx.size ≤ 140737488351232) (hn : n ≤ 9223372036854775807) :
    Calls Tryd.prog 5 #[.slice A n c] w fun e w' => e = .returned (.bool (muchN n l)) ∧ w = w' := by
  have L := Lib.hid hl
  have HS : Hid (∀ k, k ≤ 50 → sumX (l.take k) ≤ 7036874417561600) := fun k hk => Nat.le_trans (sumX_bound hs k) (by omega)
  have HM := Lib.hid hs
  clear hl hs
  go_enter Tryd.func5, Tryd.ntmps5
  go_wp2
  go_loopg [3, 4] 50 (fun g v3 v4 wr => ∃ k : Nat, g + k = 50 ∧ k ≤ n ∧ v3 = .int .i64 (sumX (l.take k) : Nat) ∧ v4 = .int .i64 k ∧ wr = w)
  case atStart => exact ⟨0, rfl, by omega, rfl, rfl, rfl⟩
  case round =>
    obtain ⟨k, hgk, hkn, rfl, rfl, rfl⟩ := hrel
    have b0 : (0 : Int) ≤ (k : Int) := by omega
    have hsk := HS.out k (by omega)
    by_cases hlt : k < n ∧ k < 50
    · obtain ⟨a, e, rfl, hx, he⟩ := L.out.2 k hlt.1
      have b1 : (k : Int) < (n : Int) := by omega
      have b2 : (k : Int) < 50 := by omega
      have hrl := HM.out e (List.mem_of_getElem? hx)
      have HN := Lib.hid (sumX_next hx)
      have e2 := he.2.2.1
      clear hx he hlt
      generalize sumX (l.take k) = u at *
      have hn2 : Hid (((sumX (l.take (k + 1)) : Nat) : Int) = (u : Int) + (e.tx.size : Int)) := by show _ = _; rw [HN.out]; omega
      go_wp2
      go_roundg (gk - 1)
      case measure => omega
      case rel => exact ⟨k + 1, by omega, by omega, by rw [hn2.out], by go_num, rfl⟩
    · have HE : Hid (sumX (l.take k) = sumX (l.take 50)) := by
        show _ = _
        by_cases h : k < 50
        · have hk : k = n := by omega
          rw [List.take_of_length_le (by rw [L.out.1]; omega), List.take_of_length_le (by rw [L.out.1]; omega)]
        · have hk : k = 50 := by omega
          rw [hk]
      have HG : Hid (muchN n l = (decide (24 < n) || decide (1500 < sumX (l.take k)))) := by show _ = _; rw [HE.out]; rfl
      generalize sumX (l.take k) = u at *
      have FIN : Hid (∀ b : Bool, (decide (24 < (n : Int)) || decide (1500 < (u : Int))) = b → muchN n l = b) := by
        intro b h
        rw [HG.out, ← h]
        congr 1 <;> (congr 1; simp; omega)
      clear HG HE
      rcases Nat.lt_or_ge k n with h1 | h1
      · have b1 : (k : Int) < (n : Int) := by omega
        have b2 : ¬ (k : Int) < 50 := by omega
        have p : 24 < (n : Int) := by omega
        have G := Lib.hid (FIN.out true (by rw [decide_eq_true p]; rfl))
        clear hlt
        go_wp2
        go_ret
        exact ⟨by rw [G.out]; rfl, rfl⟩
      · have b1 : ¬ (k : Int) < (n : Int) := by omega
        clear hlt
        rcases Int.lt_or_le 24 (n : Int) with p | p
        · have G := Lib.hid (FIN.out true (by rw [decide_eq_true p]; rfl))
          go_wp2
          go_ret
          exact ⟨by rw [G.out]; rfl, rfl⟩
        · have p' : ¬ 24 < (n : Int) := by omega
          rcases Int.lt_or_le 1500 (u : Int) with r | r
          · have G := Lib.hid (FIN.out true (by rw [decide_eq_true r, decide_eq_false p']; rfl))
            go_wp2
            go_ret
            exact ⟨by rw [G.out]; rfl, rfl⟩
          · have r' : ¬ 1500 < (u : Int) := by omega
            have G := Lib.hid (FIN.out false (by rw [decide_eq_false r', decide_eq_false p']; rfl))
            go_wp2
            go_ret
            exact ⟨by rw [G.out]; rfl, rfl⟩
end Go.Proofs.YtkeclfhhilphpaaDoor
/- The reference's Great: a graph that statements ask of is small. Conditions: none but the reach of a slice. -/
namespace Go.Proofs.YtkeclfhhilphpaaDoor
open Go.RowKit Go.Proofs.YtkeclfhhilphpaaDoor.GraphPlain
def sumL (R : List (List Int)) : Nat := (R.map List.length).sum
def greatN (nn nt : Nat) (R : List (List Int)) : Bool := decide (30 < nn) || decide (30 < nt) || decide (100 < sumL (R.take 50))
theorem sumL_next {R : List (List Int)} {k : Nat} {r : List Int} (h : R[k]? = some r) : sumL (R.take (k + 1)) = sumL (R.take k) + r.length := by
  unfold sumL
  rw [List.take_add_one, h]
  simp
theorem sumL_take_le (R : List (List Int)) (k : Nat) : sumL (R.take k) ≤ sumL R := by
  unfold sumL
  conv => rhs; rw [← List.take_append_drop k R]
  rw [List.map_append, List.sum_append]
  omega
theorem sumL_mem {R : List (List Int)} {r : List Int} (h : r ∈ R) : r.length ≤ sumL R := by
  unfold sumL
  induction R with
  | nil => cases h
  | cons x R ih =>
    rw [List.map_cons, List.sum_cons]
    rcases List.mem_cons.1 h with rfl | h
    · omega
    · have := ih h; omega
theorem greatN_no {nn nt : Nat} {R : List (List Int)} (hR : R.length = nt) (h : greatN nn nt R = false) : nn ≤ 30 ∧ nt ≤ 30 ∧ sumL R ≤ 100 := by
  unfold greatN at h
  simp only [Bool.or_eq_false_iff, decide_eq_false_iff_not] at h
  have : R.take 50 = R := List.take_of_length_le (by omega)
  rw [this] at h
  omega
theorem sumL_bound {R : List (List Int)} {M : Nat} (h : ∀ r ∈ R, r.length ≤ M) : ∀ k, sumL (R.take k) ≤ k * M := by
  intro k
  induction k with
  | zero => simp [sumL]
  | succ k ih =>
    cases hx : R[k]? with
    | none =>
      have e : R.take (k + 1) = R.take k := by rw [List.take_add_one, hx]; simp
      rw [e, Nat.succ_mul]; omega
    | some r =>
      have := h r (memOf hx)
      rw [sumL_next hx, Nat.succ_mul]; omega
end Go.Proofs.YtkeclfhhilphpaaDoor
/- A parameter that is a graph, as the walks read it; the reach bounds its rows. -/
namespace Go.Proofs.YtkeclfhhilphpaaDoor
set_option linter.unusedVariables false
open Go.RowKit Go.ChangeShapes Go.Deep Go.Proofs.YtkeclfhhilphpaaDoor.GraphPlain
theorem Tryd.cellsGrInt : Tryd.prog.cellsOf 3 = 1 := by kernel_rfl
theorem Tryd.cellsGrInts : Tryd.prog.cellsOf 63 = 1 := by kernel_rfl
theorem Tryd.cellsGrRows : Tryd.prog.cellsOf 47 = 1 := by kernel_rfl
theorem Tryd.cellsGrNames : Tryd.prog.cellsOf 46 = 1 := by kernel_rfl
theorem Tryd.cellsGr : Tryd.prog.cellsOf 49 = 2 := by kernel_rfl
theorem Tryd.bytesGrInt : Tryd.prog.bytesOf 3 = 8 := by kernel_rfl
theorem weightsAll_mem {H : Type} {P : Program} {e : TypeId} {d : DataW H} {n : Nat} (hn : n ∈ d.weights P e) : ∀ {l : List (DataW H)}, d ∈ l → n ∈ DataW.weightsAll P e l
  | [], h => by cases h
  | x :: l, h => by
    unfold DataW.weightsAll
    rcases List.mem_cons.1 h with rfl | h
    · exact List.mem_append_left _ hn
    · exact List.mem_append_right _ (weightsAll_mem hn h)
theorem cell_blockG {w : World} {a : Addr} {v : Value} (h : w.cell? a = some v) : a.block < w.heap.size := by
  rcases Nat.lt_or_ge a.block w.heap.size with hlt | hge
  · exact hlt
  · exfalso
    have e : w.heap[a.block]? = none := Array.getElem?_eq_none hge
    simp [World.cell?, e] at h
section
variable {H : Type} {enc : TypeId × Value → H} {w : World} {base : Nat} {held : Bool}
/-- Rows of numbers, from one cell. -/
theorem rows_of {fuel : Nat} {c : Value} {x : DataW H × List MemPlace} (h : DataW.trod enc Tryd.prog w base (fun _ => true) held fuel 47 [c] = some x) (hz : ∀ n ∈ x.1.weights Tryd.prog 47, n ≤ reachBytes) :
    ∃ (A : Option Addr) (n cp : Nat) (R : List (List Int)), c = .slice A n cp ∧ GrAt w A n R ∧ n ≤ cp ∧ cp ≤ maxLen ∧ ∀ r ∈ R, r.length ≤ 17592186044416 := by
  rcases open_int_rows Tryd.underlying47 Tryd.underlying63 Tryd.underlying3 Tryd.cellsGrInts Tryd.cellsGrInt h with ⟨h1, _⟩ | ⟨a, len, cap, A, L, C, Z, h1, _, hl, hm, hx, hr⟩
  · simp only [List.cons.injEq, and_true] at h1
    exact ⟨none, 0, 0, [], h1, ⟨rfl, fun k hk => by omega⟩, Nat.le_refl _, Nat.zero_le _, fun r hr => by cases hr⟩
  · simp only [List.cons.injEq, and_true] at h1
    have hb : ∀ r, r < len → L r ≤ 17592186044416 := by
      intro r hrl
      obtain ⟨_, k1, _, k3, _, k5, _⟩ := hr r (by omega)
      cases hA : A r with
      | none => have := k5 hA; omega
      | some a' =>
        have hd : intRow (H := H) .i64 (A r) (L r) (Z r) ∈ (List.range len).map fun r => intRow (H := H) .i64 (A r) (L r) (Z r) := List.mem_map.2 ⟨r, List.mem_range.2 hrl, rfl⟩
        have hw : C r * 8 ∈ (intRow (H := H) .i64 (A r) (L r) (Z r)).weights Tryd.prog 63 := by
          rw [hA]
          unfold intRow
          simp only [DataW.weights, Tryd.underlying63, Tryd.bytesGrInt]
          have e : (lits (H := H) .i64 ((Z r).take (L r))).length + (lits (H := H) .i64 ((Z r).drop (L r))).length = C r := by
            simp [lits, k3]; omega
          rw [e]
          exact List.mem_cons_self ..
        have h2 := hz (C r * 8) (by
          rw [hx]
          simp only [DataW.weights, Tryd.underlying47]
          exact List.mem_cons_of_mem _ (List.mem_append_left _ (weightsAll_mem hw hd)))
        unfold reachBytes at h2
        omega
    refine ⟨some a, len, cap, (List.range len).map fun r => (Z r).take (L r), h1, ⟨by simp, fun k hk => ?_⟩, hl, hm, fun r hr' => ?_⟩
    · obtain ⟨k0, k1, _, k3, _, k5, k6⟩ := hr k (by omega)
      have hlen : ((Z k).take (L k)).length = L k := by rw [List.length_take]; omega
      refine ⟨a, A k, (Z k).take (L k), C k, rfl, by simp [hk], (by have := cell_blockG k0; rwa [addBlockT] at this), by rw [hlen]; exact k0, rfl, fun i hi => ?_⟩
      rw [hlen] at hi
      cases hA : A k with
      | none => have := k5 hA; omega
      | some a' =>
        have hc := (k6 a' hA).2 i (by omega)
        refine ⟨a', (Z k).getD i 0, rfl, ?_, ?_, hc⟩
        · rw [List.getElem?_take_of_lt hi, List.getD_eq_getElem?_getD, List.getElem?_eq_getElem (by omega)]; rfl
        · have := cell_blockG hc; rwa [addBlockT] at this
    · obtain ⟨k, hk, rfl⟩ := List.mem_map.1 hr'
      have := hb k (List.mem_range.1 hk)
      exact Nat.le_trans (List.length_take_le _ _) this
set_option maxRecDepth 100000 in
/-- A parameter of a graph. -/
theorem graph_of {r : Reach} {b0 : Nat} {v : Value} {d : DataW H} {ps : List MemPlace}
    (hval : Value.okWide Tryd.prog w r b0 49 v) (hd : DataW.Trod enc Tryd.prog w base (fun _ => true) held 49 v d ps) (hz : (DataW.weightsEach Tryd.prog [49] [d]).all (· ≤ reachBytes) = true) :
    ∃ (An : Option Addr) (nn cn : Nat) (At : Option Addr) (nt ct : Nat) (R : List (List Int)), v = grV An nn cn At nt ct ∧ GrAt w At nt R ∧ (∀ r ∈ R, r.length ≤ 17592186044416) ∧ nn ≤ maxLen ∧ nt ≤ maxLen := by
  have hz : ∀ n ∈ d.weights Tryd.prog 49, n ≤ reachBytes := fun n hn => by
    have := List.all_eq_true.1 hz n (by unfold DataW.weightsEach; exact List.mem_append_left _ hn)
    simpa using this
  obtain ⟨v0, v1, y0, y1, n, rfl, rfl, _, h0, h1⟩ := Joins.open_agg2 Tryd.underlying49 (by kernel_rfl) Tryd.cellsGr hval hd
  obtain ⟨nn, cn, An, e0, hnn⟩ : ∃ (nn cn : Nat) (An : Option Addr), v0 = .slice An nn cn ∧ nn ≤ maxLen := by
    rcases open_slice Tryd.underlying46 h0 with ⟨e1, e2⟩ | ⟨a, len, cap, m, n', D, Pl, e1, _, hl, hm, hmm, e2, hx⟩
    · simp only [List.cons.injEq, and_true] at e1
      exact ⟨0, 0, none, e1, Nat.zero_le _⟩
    · simp only [List.cons.injEq, and_true] at e1
      exact ⟨len, cap, some a, e1, Nat.le_trans hl hm⟩
  obtain ⟨At, nt, ct, R, rfl, hg, hle, hm, hb⟩ := rows_of h1 (fun n hn => hz n (by
    simp only [DataW.weights, Tryd.underlying49]
    exact DataW.weights_mem_each (j := 1) rfl rfl n hn))
  subst e0
  refine ⟨An, nn, cn, At, nt, ct, R, rfl, hg, hb, hnn, Nat.le_trans hle hm⟩
end
end Go.Proofs.YtkeclfhhilphpaaDoor
/- A parameter of entities, as the walks read it; the reach bounds its texts. -/
namespace Go.Proofs.YtkeclfhhilphpaaDoor
set_option linter.unusedVariables false
set_option linter.unusedSimpArgs false
open Go.RowKit Go.ChangeShapes Go.Deep
theorem Tryd.cellsEnt : Tryd.prog.cellsOf 44 = 6 := by kernel_rfl
theorem Tryd.cellsEntS : Tryd.prog.cellsOf 9 = 1 := by kernel_rfl
theorem Tryd.cellsEntB : Tryd.prog.cellsOf 4 = 1 := by kernel_rfl
theorem Tryd.cellsEntI : Tryd.prog.cellsOf 42 = 2 := by kernel_rfl
section
variable {H : Type} {enc : TypeId × Value → H} {w : World} {base : Nat} {sp : Nat → Bool} {held : Bool}
theorem eid_of {fuel : Nat} {c0 c1 : Value} {x : DataW H × List MemPlace} (h : DataW.trod enc Tryd.prog w base sp held fuel 42 [c0, c1] = some x) :
    ∃ s l : ByteArray, c0 = .string s ∧ c1 = .string l ∧ s.size ∈ x.1.weights Tryd.prog 42 ∧ l.size ∈ x.1.weights Tryd.prog 42 := by
  obtain ⟨ys, n, _, rfl, _, hyl, hf⟩ := DataW.trod_struct Tryd.underlying42 h
  have f0 := hf 0 _ rfl
  have f1 := hf 1 _ rfl
  simp only [List.getElem_toArray, List.getElem_cons_zero, List.getElem_cons_succ, Tryd.cellsEntS, List.drop_zero, List.take_succ_cons, List.take_zero, List.drop_succ_cons] at f0 f1
  match ys, hyl with
  | [y0, y1], _ =>
    obtain ⟨s, h1, h2, _⟩ := DataW.trod_string Tryd.underlying9 f0
    obtain ⟨l, h3, h4, _⟩ := DataW.trod_string Tryd.underlying9 f1
    simp only [List.cons.injEq, and_true] at h1 h3
    subst h2 h4
    exact ⟨s, l, h1, h3, by simp [DataW.weights, Tryd.underlying42, DataW.weightsEach], by simp [DataW.weights, Tryd.underlying42, DataW.weightsEach]⟩
set_option maxRecDepth 100000 in
theorem ent_of {fuel : Nat} {cs : List Value} {x : DataW H × List MemPlace} (h : DataW.trod enc Tryd.prog w base sp held fuel 44 cs = some x) :
    ∃ e : Ent, cs = e.cells ∧ (∀ n ∈ [e.na.size, e.tx.size, e.pu.size, e.sy.size, e.no.size], n ∈ x.1.weights Tryd.prog 44) := by
  obtain ⟨ys, n, _, rfl, hlen, hyl, hf⟩ := DataW.trod_struct Tryd.underlying44 h
  rw [Tryd.cellsEnt] at hlen
  have f0 := hf 0 _ rfl
  have f1 := hf 1 _ rfl
  have f2 := hf 2 _ rfl
  have f3 := hf 3 _ rfl
  have f4 := hf 4 _ rfl
  match cs, hlen with
  | [c0, c1, c2, c3, c4, c5], _ =>
    simp only [List.getElem_toArray, List.getElem_cons_zero, List.getElem_cons_succ, Tryd.cellsEntS, Tryd.cellsEntB, Tryd.cellsEntI, List.drop_zero, List.take_succ_cons, List.take_zero, List.drop_succ_cons] at f0 f1 f2 f3 f4
    match ys, hyl with
    | [y0, y1, y2, y3, y4], _ =>
      obtain ⟨s0, h0, g0, _⟩ := DataW.trod_string Tryd.underlying9 f0
      obtain ⟨s1, h1, g1, _⟩ := DataW.trod_string Tryd.underlying9 f1
      obtain ⟨b2, h2, g2⟩ := DataW.trod_bool Tryd.underlying4 f2
      obtain ⟨s3, s4, rfl, rfl, g3, g4⟩ := eid_of f3
      obtain ⟨s5, h5, g5, _⟩ := DataW.trod_string Tryd.underlying9 f4
      simp only [List.cons.injEq, and_true] at h0 h1 h2 h5
      subst h0 h1 h2 h5 g0 g1 g2 g5
      refine ⟨⟨s0, s1, b2, s3, s4, s5⟩, rfl, fun n hn => ?_⟩
      simp [DataW.weights, Tryd.underlying44, DataW.weightsEach] at hn ⊢
      rcases hn with rfl | rfl | rfl | rfl | rfl
      · exact .inl rfl
      · exact .inr (.inl rfl)
      · exact .inr (.inr (.inl g3))
      · exact .inr (.inr (.inl g4))
      · exact .inr (.inr (.inr rfl))
set_option maxRecDepth 100000 in
/-- A parameter of entities. -/
theorem ents_of {r : Reach} {b0 : Nat} {v : Value} {d : DataW H} {ps : List MemPlace}
    (hval : Value.okWide Tryd.prog w r b0 22 v) (hd : DataW.Trod enc Tryd.prog w base sp held 22 v d ps) (hz : ∀ n ∈ d.weights Tryd.prog 22, n ≤ reachBytes) :
    ∃ (A : Option Addr) (n cp : Nat) (l : List Ent), v = .slice A n cp ∧ EntsAt w A n l ∧ n ≤ maxLen ∧ (∀ e ∈ l, e.na.size ≤ reachBytes ∧ e.tx.size ≤ reachBytes) := by
  obtain ⟨A, n, cp, rfl⟩ := Go.WideShapes.okWide_slice Tryd.underlying22 hval
  obtain ⟨fuel, hf⟩ := hd
  rcases open_slice Tryd.underlying22 hf with ⟨h1, h2⟩ | ⟨a, len, cap, m, n', D, Pl, h1, _, hl, hm, hmm, h2, hx⟩
  · simp [Value.cells] at h1
    obtain ⟨rfl, rfl, rfl⟩ := h1
    exact ⟨none, 0, 0, [], rfl, ⟨rfl, fun i hi => by omega⟩, Nat.zero_le _, by simp⟩
  · simp [Value.cells] at h1
    obtain ⟨rfl, rfl, rfl⟩ := h1
    have hle : n ≤ m := by rw [hmm]; split <;> omega
    simp only [Prod.mk.injEq] at h2
    have hch : ∀ i, i < n → ∃ e : Ent, EntAt w (a.add (i * 6)) e ∧ (e.na.size ≤ reachBytes ∧ e.tx.size ≤ reachBytes) := fun i hi => by
      obtain ⟨cs', hc, ht⟩ := hx i (by omega)
      rw [Tryd.cellsEnt] at hc
      obtain ⟨_, hcl, hat⟩ := World.cells?_some hc
      obtain ⟨e, rfl, hb⟩ := ent_of ht
      have g0 := hat 0 (by decide)
      have g1 := hat 1 (by decide)
      have g2 := hat 2 (by decide)
      have g3 := hat 3 (by decide)
      have g4 := hat 4 (by decide)
      have g5 := hat 5 (by decide)
      have hw : ∀ k ∈ [e.na.size, e.tx.size, e.pu.size, e.sy.size, e.no.size], k ≤ reachBytes := fun k hk => hz k (by
        rw [h2.1]
        simp only [DataW.weights, Tryd.underlying22]
        exact List.mem_cons_of_mem _ (List.mem_append_left _ (weightsAll_mem (hb k hk) (List.mem_map.2 ⟨i, List.mem_range.2 hi, rfl⟩))))
      exact ⟨e, ⟨cell_blockG (by simpa [Addr.add, Ent.cells] using g0), by simpa [Addr.add, Ent.cells] using g0, by simpa [Addr.add, Ent.cells] using g1, by simpa [Addr.add, Ent.cells] using g2, by simpa [Addr.add, Ent.cells] using g3, by simpa [Addr.add, Ent.cells] using g4, by simpa [Addr.add, Ent.cells] using g5⟩, hw _ (by simp), hw _ (by simp)⟩
    obtain ⟨F, hF⟩ := choose_lt hch
    refine ⟨some a, n, cp, (List.range n).map F, rfl, ⟨by simp, fun i hi => ⟨a, F i, rfl, by simp [hi], (hF i hi).1⟩⟩, Nat.le_trans hl hm, fun e he => ?_⟩
    obtain ⟨i, hi, rfl⟩ := List.mem_map.1 he
    exact (hF i (List.mem_range.1 hi)).2
end
end Go.Proofs.YtkeclfhhilphpaaDoor
