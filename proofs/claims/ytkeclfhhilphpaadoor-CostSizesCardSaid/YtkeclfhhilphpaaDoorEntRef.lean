/- The reference's Find, Inner and Much, over entities. Conditions: at most 2^20 entities. -/
import Derived.Test.YtkeclfhhilphpaaDoorGraphOf
namespace Go.Proofs.YtkeclfhhilphpaaDoor
set_option linter.unusedSimpArgs false
set_option linter.unusedVariables false
open Go.RowKit Go.Maps Go.Proofs.YtkeclfhhilphpaaDoor.GraphPlain Go.Proofs.YtkeclfhhilphpaaDoor.RefPlain
/-- The place of a name; -1: it is not there. -/
def findE (ns : List ByteArray) (y : ByteArray) : Int := match ns.findIdx? fun x => decide (x = y) with
  | some k => k
  | none => -1
theorem findE_yes {ns : List ByteArray} {y : ByteArray} {k : Nat} (h : ∀ x ∈ ns.take k, decide (x = y) = false) (hk : ns[k]? = some y) : findE ns y = k := by
  obtain ⟨hl, e⟩ := List.getElem?_eq_some_iff.1 hk
  unfold findE
  have : ns.findIdx? (fun x => decide (x = y)) = some k := by
    rw [List.findIdx?_eq_some_iff_getElem]
    refine ⟨hl, by rw [e]; simp, fun j hj => ?_⟩
    have := h ns[j] (List.mem_take_iff_getElem.2 ⟨j, by omega, rfl⟩)
    simpa using this
  rw [this]
theorem findE_no {ns : List ByteArray} {y : ByteArray} (h : ∀ x ∈ ns, decide (x = y) = false) : findE ns y = -1 := by
  unfold findE
  have : ns.findIdx? (fun x => decide (x = y)) = none := by
    rw [List.findIdx?_eq_none_iff]; exact h
  rw [this]
theorem findE_hasT {ns : List ByteArray} {y : ByteArray} : (hasT ns y = true → findE ns y = idxT ns y) ∧ (hasT ns y = false → findE ns y = -1) := by
  unfold findE idxT hasT
  cases h : ns.findIdx? (fun x => decide (x = y)) with
  | none =>
    rw [List.findIdx?_eq_none_iff] at h
    refine ⟨fun h2 => ?_, fun _ => rfl⟩
    obtain ⟨x, hx, e⟩ := List.any_eq_true.1 h2
    rw [h x hx] at e; cases e
  | some k =>
    refine ⟨fun _ => rfl, fun h2 => ?_⟩
    obtain ⟨hl, e, _⟩ := List.findIdx?_eq_some_iff_getElem.1 h
    rw [List.any_eq_false] at h2
    exact absurd e (h2 _ (List.getElem_mem hl))
theorem takeNo {ns : List ByteArray} {y x : ByteArray} {k : Nat} (h : ∀ z ∈ ns.take k, decide (z = y) = false) (hk : ns[k]? = some x) (hx : ¬ x = y) : ∀ z ∈ ns.take (k + 1), decide (z = y) = false := by
  intro z hz
  rw [List.take_add_one, hk] at hz
  rcases List.mem_append.1 hz with hz | hz
  · exact h z hz
  · obtain rfl : z = x := by simpa using hz
    exact decide_eq_false hx
set_option maxHeartbeats 2000000 in
theorem find_any (A : Option Addr) (n c : Nat) (l : List Ent) (y : ByteArray) (w : World) (hl : EntsAt w A n l) (hn : n ≤ 1048576) :
    Calls Tryd.prog 25 #[.slice A n c, .string y] w fun e w' => e = .returned (.int .i64 (findE (l.map Ent.na) y)) ∧ w = w' := by
  have L := Lib.hid hl
  clear hl
  go_enter Tryd.func25, Tryd.ntmps25
  go_wp2
  go_loopg [5] n (fun g v5 wr => ∃ k : Nat, g + k = n ∧ v5 = .int .i64 k ∧ Hid (∀ x ∈ (l.map Ent.na).take k, decide (x = y) = false) ∧ wr = w)
  case atStart => exact ⟨0, rfl, rfl, by intro x hx; simp at hx, rfl⟩
  case round =>
    obtain ⟨k, hgk, rfl, HT, rfl⟩ := hrel
    by_cases hlt : k < n
    · obtain ⟨a, e, rfl, hx, he⟩ := L.out.2 k hlt
      have b0 : (0 : Int) ≤ (k : Int) := by omega
      have b1 : (k : Int) < (n : Int) := by omega
      have e1 := he.2.1
      have HX : Hid ((l.map Ent.na)[k]? = some e.na) := by show _ = _; rw [List.getElem?_map, hx]; rfl
      clear hx he
      by_cases hxy : e.na = y
      · have HE := Lib.hid (findE_yes HT.out (by rw [HX.out, hxy]))
        rw [hxy] at e1
        clear hxy
        go_wp2
        go_ret
        exact ⟨by rw [HE.out]; rfl, rfl⟩
      · have t4 : (e.na.toList == y.toList) = false := sL_no hxy
        have HT2 := Lib.hid (takeNo HT.out HX.out hxy)
        clear hxy
        go_wp2
        go_roundg (gk - 1)
        case measure => omega
        case rel => exact ⟨k + 1, by omega, by go_num, HT2, rfl⟩
    · obtain rfl : k = n := by omega
      have HE : Hid (findE (l.map Ent.na) y = -1) := findE_no (by have := HT.out; rwa [List.take_of_length_le (by rw [List.length_map, L.out.1]; exact Nat.le_refl _)] at this)
      go_wp2
      go_ret
      exact ⟨by rw [HE.out]; rfl, rfl⟩
/-! Entities in a row of the call's own -/
def Ent.cells (e : Ent) : List Value := [.string e.na, .string e.tx, .bool e.out, .string e.pu, .string e.sy, .string e.no]
def entCells (l : List Ent) : List Value := l.flatMap Ent.cells
theorem entCells_snoc (l : List Ent) (e : Ent) : entCells (l ++ [e]) = entCells l ++ e.cells := by simp [entCells]
theorem entCells_len (l : List Ent) : (entCells l).length = l.length * 6 := by
  induction l with
  | nil => rfl
  | cons e l ih =>
    show (e.cells ++ entCells l).length = _
    rw [List.length_append, ih]
    simp [Ent.cells]; omega
theorem entCells_at {l : List Ent} : ∀ {k : Nat} {e : Ent} (_ : l[k]? = some e) {j : Nat} {u : Value} (_ : e.cells[j]? = some u), (entCells l)[k * 6 + j]? = some u := by
  induction l with
  | nil => intro k e h; simp at h
  | cons x l ih =>
    intro k e h j u hj
    have hxl : x.cells.length = 6 := rfl
    show (x.cells ++ entCells l)[k * 6 + j]? = _
    cases k with
    | zero =>
      obtain rfl : x = e := by simpa using h
      have : j < 6 := (List.getElem?_eq_some_iff.1 hj).1
      rw [Nat.zero_mul, Nat.zero_add, List.getElem?_append_left (by omega)]; exact hj
    | succ k =>
      rw [List.getElem?_append_right (by omega), hxl, show (k + 1) * 6 + j - 6 = k * 6 + j by omega]
      exact ih (by simpa using h) hj
theorem addT6 (T k j : Nat) : (⟨T, 0, none⟩ : Addr).add (k * 6 + j) = ⟨((⟨T, 0, none⟩ : Addr).add (k * 6)).block, ((⟨T, 0, none⟩ : Addr).add (k * 6)).off + j, none⟩ := by rw [addT, addT]
theorem EntsAt.of_own {w : World} {base : Nat} {t : TypeId} {A : Option Addr} {c : Nat} {l : List Ent} (h : w.ownsRow base t 6 (.slice A l.length c) l.length (entCells l)) : EntsAt w A l.length l := by
  refine ⟨rfl, fun i hi => ?_⟩
  rcases h.2 with ⟨_, h2⟩ | ⟨g, cap, cur, hv, hg, hh, _⟩
  · omega
  · cases hv
    have hx : l[i]? = some l[i] := List.getElem?_eq_getElem hi
    have key : ∀ (j : Nat) (u : Value), l[i].cells[j]? = some u → w.cell? ⟨((⟨g, 0, none⟩ : Addr).add (i * 6)).block, ((⟨g, 0, none⟩ : Addr).add (i * 6)).off + j, none⟩ = some u := fun j u hj => by
      have := h.cells rfl _ _ (entCells_at hx hj)
      rwa [addT6] at this
    refine ⟨⟨g, 0, none⟩, l[i], rfl, hx, ?_, ?_, key 1 _ rfl, key 2 _ rfl, key 3 _ rfl, key 4 _ rfl, key 5 _ rfl⟩
    · rw [addT]; exact (h.lt g rfl).2
    · have := key 0 _ rfl
      rw [addT] at this ⊢
      exact this
theorem Tryd.infoEnt : (Tryd.prog.info? 44).map (fun i => (i.zero, i.size, i.bytes)) = some (some (.agg #[.string ⟨#[]⟩, .string ⟨#[]⟩, .bool false, .string ⟨#[]⟩, .string ⟨#[]⟩, .string ⟨#[]⟩]), 6, 88) := by kernel_rfl
theorem entOne (w : World) (e : Ent) (t : TypeId) : ∀ (j : Nat) (u : Value), e.cells[j]? = some u → (w.alloc (.cells #[.string e.na, .string e.tx, .bool e.out, .string e.pu, .string e.sy, .string e.no] t)).cell? ((⟨w.heap.size, 0, none⟩ : Addr).add j) = some u := by
  intro j u hj
  have h := heap_alloc_new w (.cells #[.string e.na, .string e.tx, .bool e.out, .string e.pu, .string e.sy, .string e.no] t)
  rw [addT, Lib.cell_of_heap h]
  have : j < 6 := (List.getElem?_eq_some_iff.1 hj).1
  match j, this with
  | 0, _ => exact hj
  | 1, _ => exact hj
  | 2, _ => exact hj
  | 3, _ => exact hj
  | 4, _ => exact hj
  | 5, _ => exact hj
set_option maxRecDepth 100000 in
set_option maxHeartbeats 4000000 in
theorem inner_any (A : Option Addr) (n c : Nat) (l : List Ent) (w : World) (hl : EntsAt w A n l) (hn : n ≤ 1048576) :
    Calls Tryd.prog 21 #[.slice A n c] w fun e w' => ∃ A' c', e = .returned (.slice A' (innerN l).length c') ∧ w'.ownsRow w.heap.size 44 6 (.slice A' (innerN l).length c') (innerN l).length (entCells (innerN l)) ∧ Below w.heap.size w w' := by
  obtain ⟨i0, hi0, hz0, hz1, hz2⟩ := info_parts Tryd.infoEnt
  have L := Lib.hid hl
  clear hl
  go_enter Tryd.func21, Tryd.ntmps21
  go_wp2
  have R0 : Hid (w.ownsRow w.heap.size 44 6 (.slice none 0 0) (innerN (l.take 0)).length (entCells (innerN (l.take 0)))) := World.ownsRow_nil _ _ _ _
  go_loopg [3, 4] n (fun g v3 v4 wr => ∃ k : Nat, g + k = n ∧ v4 = .int .i64 k ∧ Hid (wr.ownsRow w.heap.size 44 6 v3 (innerN (l.take k)).length (entCells (innerN (l.take k)))) ∧ Hid (Below w.heap.size w wr))
  case atStart => exact ⟨0, rfl, rfl, R0, Below.refl _ _⟩
  case round =>
    obtain ⟨k, hgk, rfl, HR, HW⟩ := hrel
    obtain ⟨A3, c3, rfl⟩ := own_shapeG HR.out
    by_cases hlt : k < n
    · obtain ⟨a, e, rfl, hx, he⟩ := L.out.2 k hlt
      have b0 : (0 : Int) ≤ (k : Int) := by omega
      have b1 : (k : Int) < (n : Int) := by omega
      obtain ⟨e0, e1, e2, e3, e4, e5, e6⟩ := he.below HW.out
      have HX := Lib.hid (innerN_next hx)
      have hnl := innerN_len l k
      clear hx he R0
      cases ho : e.out with
      | true =>
        rw [ho] at e3
        have HE : Hid (innerN (l.take (k + 1)) = innerN (l.take k)) := by show _ = _; rw [HX.out]; unfold addE; rw [if_pos (.inl ho)]
        have HR2 := HR.out
        rw [← HE.out] at HR2
        have HR3 := Lib.hid HR2
        have eL : Hid ((innerN (l.take (k + 1))).length = (innerN (l.take k)).length) := by show _ = _; rw [HE.out]
        clear ho HR2
        go_wp2
        go_roundg (gk - 1)
        case measure => omega
        case rel => exact ⟨k + 1, by omega, by go_num, by rw [← eL.out]; exact HR3.out, HW⟩
      | false =>
        rw [ho] at e3
        have C := find_any A3 (innerN (l.take k)).length c3 (innerN (l.take k)) e.na wr (EntsAt.of_own HR.out) (by omega)
        cases hh : hasT ((innerN (l.take k)).map Ent.na) e.na with
        | true =>
          rw [findE_hasT.1 hh] at C
          have C := Lib.hid C
          have HE : Hid (innerN (l.take (k + 1)) = innerN (l.take k)) := by show _ = _; rw [HX.out]; unfold addE; rw [if_pos (.inr hh)]
          have HR2 := HR.out
          rw [← HE.out] at HR2
          have HR3 := Lib.hid HR2
          have eL : Hid ((innerN (l.take (k + 1))).length = (innerN (l.take k)).length) := by show _ = _; rw [HE.out]
          have t1 : ¬ ((idxT ((innerN (l.take k)).map Ent.na) e.na : Nat) : Int) < 0 := by omega
          generalize idxT ((innerN (l.take k)).map Ent.na) e.na = ix at *
          clear ho hh HR2
          go_wp2_with (go_at_call 25; refine C.out.mono ?_; rintro e' w' ⟨rfl, rfl⟩)
          go_roundg (gk - 1)
          case measure => omega
          case rel => exact ⟨k + 1, by omega, by go_num, by rw [← eL.out]; exact HR3.out, HW⟩
        | false =>
          rw [findE_hasT.2 hh] at C
          have C := Lib.hid C
          have HE : Hid (innerN (l.take (k + 1)) = innerN (l.take k) ++ [e]) := by show _ = _; rw [HX.out]; unfold addE; rw [if_neg (by rw [hh, ho]; simp)]
          have HO := Lib.hid ho
          have HRa := HR.out.alloc (.cells #[.string e.na, .string e.tx, .bool false, .string e.pu, .string e.sy, .string e.no] 44)
          clear hh ho
          generalize innerN (l.take k) = L0 at *
          go_wp2_with (first | (go_at_call 25; refine C.out.mono ?_; rintro e' w' ⟨rfl, rfl⟩) | (at_builtin; refine wpList_append_own _ rfl _ _ 22 rfl w.heap.size 44 i0 _ 6 88 Tryd.underlying22 hi0 hz0 hz1 hz2 rfl (by decide) _ _ _ rfl HRa ⟨_, 0, none⟩ 1 1 e.cells rfl rfl ?c1 ?c2 ?c3 ?c4 ?c5 ?_))
          case c1 =>
            have := entOne wr e 44
            rw [HO.out] at this
            exact this
          case c2 =>
            intro u hu
            simp [Ent.cells] at hu
            rcases hu with rfl | rfl | rfl | rfl | rfl | rfl <;> rfl
          case c3 => unfold maxLen; omega
          case c4 => omega
          case c5 => have := HW.out.size; simp; omega
          intro v' w3 hown' hgrow _
          have HR3 : Hid (w3.ownsRow w.heap.size 44 6 v' (innerN (l.take (k + 1))).length (entCells (innerN (l.take (k + 1))))) := by
            show w3.ownsRow _ _ _ _ _ _
            rw [HE.out, entCells_snoc, List.length_append]; exact hown'
          have HW3 := Lib.hid ((HW.out.alloc HW.out.size (.cells #[.string e.na, .string e.tx, .bool false, .string e.pu, .string e.sy, .string e.no] 44)).grown hgrow (by have := HW.out.size; simp; omega) (fun g h => (HR.out.lt g h).1))
          clear hown' hgrow HRa
          go_wp2
          go_roundg (gk - 1)
          case measure => omega
          case rel => exact ⟨k + 1, by omega, by go_num, HR3, HW3⟩
    · obtain rfl : k = n := by omega
      have HE : Hid (innerN (l.take k) = innerN l) := by show _ = _; rw [List.take_of_length_le (by rw [L.out.1]; exact Nat.le_refl _)]
      have HR2 := HR.out
      rw [HE.out] at HR2
      have HR3 := Lib.hid HR2
      have eL : Hid ((innerN (l.take k)).length = (innerN l).length) := by show _ = _; rw [HE.out]
      clear HR2
      go_wp2
      go_ret
      rw [eL.out]
      exact ⟨A3, c3, rfl, HR3.out, HW.out⟩
end Go.Proofs.YtkeclfhhilphpaaDoor
