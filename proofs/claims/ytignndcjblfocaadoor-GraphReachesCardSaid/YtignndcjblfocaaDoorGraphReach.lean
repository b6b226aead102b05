/- graph.Reach and the reference's Reach. Conditions: a graph of at most 2^20 places in all rows. -/
import Derived.Test.YtignndcjblfocaaDoorGraphReached
import Derived.Test.YtignndcjblfocaaDoorGraphLeadsL
import Derived.Test.YtignndcjblfocaaDoorSortInts
namespace Go.Proofs.YtignndcjblfocaaDoor
set_option linter.unusedVariables false
set_option linter.unusedSimpArgs false
open Go.RowKit Go.Proofs.YtignndcjblfocaaDoor.GraphPlain
def ReachTold (l : List Nat) (e0 : Int) (w : World) (e : Ending) (w' : World) : Prop := ∃ A c, e = .returned (.tuple #[.slice A l.length c, .int .i64 e0]) ∧ w'.ownsRow w.heap.size 3 1 (.slice A l.length c) l.length (natCells l) ∧ Below w.heap.size w w'
/-- To where ways lead, and itself. -/
def reachR (G : Gr) (f : Nat) : List Nat := (List.range G.length).filter fun x => mk (leadsN G f) x || decide (x = f)
theorem reachR_sorted {G : Gr} {f : Nat} (hf : f < G.length) : Lib.compact (((reachL G f ++ [f]).map Int.ofNat).mergeSort fun x y => decide (x ≤ y)) = (reachR G f).map Int.ofNat := by
  refine sorted_compact _ _ ?_ fun x => ?_
  · rw [List.pairwise_map]
    unfold reachR
    refine List.Pairwise.filter _ ?_
    have h : (List.range G.length).Pairwise (· < ·) := List.pairwise_lt_range
    exact h.imp fun {a b} h => by show ((a : Nat) : Int) < ((b : Nat) : Int); omega
  · rw [List.mem_map, List.mem_map]
    constructor
    · rintro ⟨y, hy, rfl⟩
      refine ⟨y, ?_, rfl⟩
      unfold reachL at hy
      unfold reachR
      rw [List.mem_filter, List.mem_range]
      rcases List.mem_append.1 hy with h | h
      · rw [List.mem_filter, List.mem_range] at h
        exact ⟨h.1, by rw [h.2]; rfl⟩
      · obtain rfl := List.mem_singleton.1 h
        exact ⟨hf, by simp⟩
    · rintro ⟨y, hy, rfl⟩
      refine ⟨y, ?_, rfl⟩
      unfold reachR at hy
      unfold reachL
      rw [List.mem_filter, List.mem_range] at hy
      rw [List.mem_append, List.mem_filter, List.mem_range]
      rcases Bool.or_eq_true_iff.1 hy.2 with h | h
      · exact .inl ⟨hy.1, h⟩
      · exact .inr (by rw [of_decide_eq_true h]; simp)
theorem natNum (l : List Nat) : numCells (l.map Int.ofNat) = natCells l := by simp [natCells, numCells]
set_option maxRecDepth 100000 in
set_option maxHeartbeats 4000000 in
theorem reach_bad (An : Option Addr) (nn cn : Nat) (At : Option Addr) (nt ct : Nat) (R : List (List Int)) (f : Int) (w : World) (hg : GrAt w At nt R) (hb : ∀ r ∈ R, r.length ≤ 9223372036854775806) (hnt : nt ≤ 1048576) (hr : rightN nn R = false) :
    Calls Tryd.prog 22 #[grV An nn cn At nt ct, .int .i64 f] w fun e w' => e = .returned (.tuple #[.slice none 0 0, .int .i64 2]) ∧ Below w.heap.size w w' := by
  obtain ⟨W, hW, hB, hz, c0, c1⟩ := grBox w An nn cn At nt ct 28
  have C := right_any An nn cn At nt ct R W (hg.below hB) hb (by omega)
  rw [hr] at C
  have C := Lib.hid C
  have HB := Lib.hid hB
  clear hB hg hb hr
  unfold grV at C ⊢
  go_enter Tryd.func22, Tryd.ntmps22
  go_wp2_with fail
  refine C.out.mono ?_
  rintro e w2 ⟨rfl, hB2⟩
  have HB2 := Lib.hid (HB.out.trans (hB2.mono (by omega)))
  clear hB2
  go_wp2
  go_ret2
  exact ⟨rfl, HB2.out⟩
set_option maxRecDepth 100000 in
set_option maxHeartbeats 4000000 in
theorem reach_range (An : Option Addr) (nn cn : Nat) (At : Option Addr) (nt ct : Nat) (R : List (List Int)) (f : Int) (w : World) (hg : GrAt w At nt R) (hb : ∀ r ∈ R, r.length ≤ 9223372036854775806) (hnt : nt ≤ 1048576) (hr : rightN nn R = true) (hf : f < 0 ∨ (nt : Int) ≤ f) :
    Calls Tryd.prog 22 #[grV An nn cn At nt ct, .int .i64 f] w fun e w' => e = .returned (.tuple #[.slice none 0 0, .int .i64 3]) ∧ Below w.heap.size w w' := by
  obtain ⟨W, hW, hB, hz, c0, c1⟩ := grBox w An nn cn At nt ct 28
  have C := right_any An nn cn At nt ct R W (hg.below hB) hb (by omega)
  rw [hr] at C
  have C := Lib.hid C
  have HB := Lib.hid hB
  clear hB hg hb hr
  unfold grV at C ⊢
  rcases Int.lt_or_le f 0 with hf0 | hf0
  · clear hf
    go_enter Tryd.func22, Tryd.ntmps22
    go_wp2_with fail
    refine C.out.mono ?_
    rintro e w2 ⟨rfl, hB2⟩
    have HB2 := Lib.hid (HB.out.trans (hB2.mono (by omega)))
    have d1 := (hB2.cell (p := ⟨w.heap.size, 1, none⟩) (by show w.heap.size < _; omega)).trans c1
    clear hB2
    go_wp2
    go_ret2
    exact ⟨rfl, HB2.out⟩
  · have hf1 : (nt : Int) ≤ f := by omega
    clear hf
    go_enter Tryd.func22, Tryd.ntmps22
    go_wp2_with fail
    refine C.out.mono ?_
    rintro e w2 ⟨rfl, hB2⟩
    have HB2 := Lib.hid (HB.out.trans (hB2.mono (by omega)))
    have d1 := (hB2.cell (p := ⟨w.heap.size, 1, none⟩) (by show w.heap.size < _; omega)).trans c1
    clear hB2
    go_wp2
    go_ret2
    exact ⟨rfl, HB2.out⟩
set_option maxRecDepth 100000 in
set_option maxHeartbeats 8000000 in
theorem reach_good (An : Option Addr) (nn cn : Nat) (At : Option Addr) (nt ct : Nat) (G : Gr) (f : Nat) (w : World) (hg : GrAt w At nt (intG G)) (hnil : GrNil w At nt) (hok : okG G) (hM : total G ≤ 1048576) (hnt : nt ≤ 1048576) (hr : rightN nn (intG G) = true) (hf : f < nt) :
    Calls Tryd.prog 22 #[grV An nn cn At nt ct, .int .i64 f] w (ReachTold (reachR G f) 0 w) := by
  obtain ⟨i0, hi0, hz0, hz1, hz2⟩ := info_parts Tryd.infoInt
  have hb : ∀ r ∈ intG G, r.length ≤ 9223372036854775806 := fun r hr => by
    obtain ⟨i, hi, rfl⟩ := List.getElem_of_mem hr
    rw [(intG_at (List.getElem?_eq_getElem hi)).1, List.length_map]
    have := row_total G i; omega
  obtain ⟨W, hW, hB, hz, c0, c1⟩ := grBox w An nn cn At nt ct 28
  have C := right_any An nn cn At nt ct (intG G) W (hg.below hB) hb (by omega)
  rw [hr] at C
  have C := Lib.hid C
  have HB := Lib.hid hB
  have HG := Lib.hid (hg.below hB)
  have HNL := Lib.hid (hnil.below hg hB)
  have HOK := Lib.hid hok
  have HN := Lib.hid (show G.length = nt by have := hg.1; unfold intG at this; simpa using this)
  have hlr : (reachL G f).length ≤ nt := by
    have := List.length_filter_le (fun x => mk (leadsN G f) x) (List.range G.length)
    rw [List.length_range] at this
    rw [← HN.out]; exact this
  have HS := Lib.hid (reachR_sorted (G := G) (f := f) (by rw [HN.out]; exact hf))
  have b0 : (0 : Int) ≤ (f : Int) := by omega
  have b1 : (f : Int) < (nt : Int) := by omega
  clear hB hg hb hr hok hnil
  unfold grV at C ⊢
  go_enter Tryd.func22, Tryd.ntmps22
  go_wp2_with fail
  refine C.out.mono ?_
  rintro e w2 ⟨rfl, hB2⟩
  have HB2 := Lib.hid (HB.out.trans (hB2.mono (by omega)))
  have d0 := (hB2.cell (p := ⟨w.heap.size, 0, none⟩) (by show w.heap.size < _; omega)).trans c0
  have d1 := (hB2.cell (p := ⟨w.heap.size, 1, none⟩) (by show w.heap.size < _; omega)).trans c1
  have CR := Lib.hid (reached_any An nn cn At nt ct G f w2 (HG.out.below hB2) (HNL.out.below HG.out hB2) HOK.out hM hnt hf)
  unfold grV at CR
  have hz2' := hB2.size
  clear hB2 c0 c1 C
  go_wp2_with fail
  refine CR.out.mono ?_
  rintro e w3 ⟨A3, c3, rfl, hown, hB3⟩
  have HR3 := hown.alloc (.cells #[.int .i64 f] 3)
  have HB3 := Lib.hid (HB2.out.trans (hB3.mono (by omega)))
  have hz3 := hB3.size
  clear hown hB3 CR d0 d1 HB2
  go_wp2_with (at_builtin; refine wpList_append_own _ rfl _ _ 35 rfl w2.heap.size 3 i0 (.int .i64 0) 1 8 Tryd.underlying35 hi0 hz0 hz1 hz2 rfl (by decide) _ _ _ rfl HR3 ⟨_, 0, none⟩ 1 1 [.int .i64 f] rfl rfl ?c1 ?c2 ?c3 ?c4 ?c5 ?_)
  case c1 => exact oneCellG w3 _ _
  case c2 => intro u hu; simp at hu; subst hu; rfl
  case c3 => unfold maxLen; omega
  case c4 => omega
  case c5 => simp; omega
  intro v' w4 hown' hgrow _
  obtain ⟨A4, c4, rfl⟩ := own_shapeG hown'
  have HB4 := Lib.hid ((HB3.out.alloc HB3.out.size (.cells #[.int .i64 f] 3)).grown hgrow (by have := HB3.out.size; simp; omega) (fun g h => by have := (HR3.lt g h).1; omega))
  have hl4 : (reachL G f).length + 1 = ((reachL G f ++ [f]).map Int.ofNat).length := by simp
  have HR4 : Hid (w4.ownsRow w2.heap.size 3 1 (.slice A4 ((reachL G f ++ [f]).map Int.ofNat).length c4) ((reachL G f ++ [f]).map Int.ofNat).length (numCells ((reachL G f ++ [f]).map Int.ofNat))) := by
    show w4.ownsRow _ _ _ _ _ _
    rw [natNum, natCells_snoc, ← hl4]; exact hown'
  have hw4 : w2.heap.size ≤ w4.heap.size := by have := hgrow.size; simp at this; omega
  have hlb : ((reachL G f ++ [f]).map Int.ofNat).length ≤ 1048577 := by rw [← hl4]; omega
  clear hown' hgrow HR3
  rw [hl4]
  clear hl4
  generalize (reachL G f ++ [f]).map Int.ofNat = l at *
  have CS := Lib.hid (sortOwn A4 c4 w2.heap.size l w4 HR4.out (by omega) hw4)
  go_wp2_with fail
  refine CS.out.mono ?_
  rintro e w5 ⟨rfl, hown5, hgrow5⟩
  have HB5 := Lib.hid (HB4.out.grown hgrow5 HB4.out.size (fun g h => by have := (HR4.out.lt g h).1; omega))
  have hl5 : (l.mergeSort fun x y => decide (x ≤ y)).length = l.length := List.length_mergeSort l
  rw [← hl5] at hown5
  have CC := Lib.hid (compactOwn A4 c4 w2.heap.size (l.mergeSort fun x y => decide (x ≤ y)) w5 hown5 (by rw [hl5]; omega))
  rw [hl5] at CC
  have HR5 := Lib.hid hown5
  clear hown5 hgrow5 CS hl5
  go_wp2_with fail
  refine CC.out.mono ?_
  rintro e w6 ⟨rfl, hown6, hgrow6⟩
  have HB6 := Lib.hid (HB5.out.grown hgrow6 HB5.out.size (fun g h => by have := (HR4.out.lt g h).1; omega))
  rw [HS.out] at hown6 ⊢
  rw [natNum, List.length_map] at hown6
  rw [List.length_map]
  have HR6 := Lib.hid (own_lowerG hown6 (show w.heap.size ≤ w2.heap.size by omega))
  clear hown6 hgrow6 CC
  go_wp2
  go_ret2
  exact ⟨A4, c4, rfl, HR6.out, HB6.out⟩
end Go.Proofs.YtignndcjblfocaaDoor
