/- Merged texts: GraphROrder, GraphRDepths. -/
import Derived.Test.YtignndcjblfocaaDoorGraphLeadsL
import Derived.Test.YtignndcjblfocaaDoorGraphDepths
/- The reference's Order, of a graph whose order tells all. Conditions: at most 2^20 places. -/
namespace Go.Proofs.YtignndcjblfocaaDoor
open Go.RowKit Go.Proofs.YtignndcjblfocaaDoor.GraphPlain
def toldL (n : Nat) (l : List Nat) : List Bool := (List.range n).map fun i => l.contains i
theorem toldL_nil (n : Nat) : toldL n [] = List.replicate n false := by
  apply List.ext_getElem?
  intro i
  by_cases hi : i < n
  · simp [toldL, hi]
  · simp [toldL, hi]
theorem toldL_len (n : Nat) (l : List Nat) : (toldL n l).length = n := by simp [toldL]
theorem toldL_set (n : Nat) (l : List Nat) (a : Nat) : (toldL n l).set a true = toldL n (l ++ [a]) := by
  apply List.ext_getElem?
  intro i
  rw [List.getElem?_set]
  by_cases hi : i < n
  · by_cases e : a = i
    · subst e; simp [toldL, hi]
    · have e' : ¬ i = a := fun h => e h.symm
      simp [toldL, hi, e, e']
  · by_cases e : a = i
    · subst e; simp [toldL, hi]
    · simp [toldL, hi, e]
theorem mk_toldL {n : Nat} {l : List Nat} {a : Nat} (h : a < n) : mk (toldL n l) a = l.contains a := by
  unfold mk toldL
  rw [List.getD_eq_getElem?_getD]; simp [h]
/-- What the inner loop knows so far. -/
def freeK (G : Gr) (l : List Nat) (i k : Nat) : Bool := !l.contains i && ((row G i).take k).all fun j => l.contains j
theorem freeK_zero (G : Gr) (l : List Nat) (i : Nat) : freeK G l i 0 = !l.contains i := by unfold freeK; simp
theorem freeK_end (G : Gr) (l : List Nat) (i : Nat) : freeK G l i (row G i).length = free G l i := by unfold freeK free; rw [List.take_length]
theorem freeK_next {G : Gr} {l : List Nat} {i k q : Nat} (h : (row G i)[k]? = some q) : freeK G l i (k + 1) = (freeK G l i k && l.contains q) := by
  unfold freeK
  rw [List.take_add_one, h, List.all_append, Bool.and_assoc]
  simp
set_option maxHeartbeats 8000000 in
set_option maxRecDepth 100000 in
theorem rorder_any (An : Option Addr) (nn cn : Nat) (At : Option Addr) (nt ct : Nat) (G : Gr) (w : World) (hg : GrAt w At nt (intG G)) (hok : okG G) (hb : ∀ r ∈ intG G, r.length ≤ 9223372036854775806) (hnt : nt ≤ 1048576) (hfull : (orderN G).length = nt) :
    Calls Tryd.prog 20 #[grV An nn cn At nt ct] w fun e w' => ∃ A c, e = .returned (.slice A nt c) ∧ w'.ownsRow w.heap.size 3 1 (.slice A nt c) nt (natCells (orderN G)) ∧ Below w.heap.size w w' := by
  obtain ⟨i0, hi0, hz0, hz1, hz2⟩ := info_parts Tryd.infoInt
  obtain ⟨j0, hj0, hy0, hy1, hy2⟩ := info_parts Tryd.infoBoolG
  obtain ⟨W, hW, hB, hz, c0, c1⟩ := grBox w An nn cn At nt ct 30
  have GA := Lib.hid (hg.below hB)
  have HB := Lib.hid hB
  have HL := Lib.hid hb
  have HN := Lib.hid (show G.length = nt by have := hg.1; unfold intG at this; simpa using this)
  have HOK := Lib.hid hok
  have HFU := Lib.hid hfull
  clear hB hg hb hok hfull
  unfold grV
  go_enter Tryd.func20, Tryd.ntmps20
  go_wp2_with (at_make; refine wpList_make_full _ rfl _ _ 61 rfl (w.heap.size + 1) 4 j0 (.bool false) 1 Tryd.underlying61 hj0 hy0 hy1 .i64 .i64 _ _ nt rfl rfl rfl rfl ?m1 ?m2 ?m3 ?_)
  case m1 => rw [hy2]; omega
  case m2 => unfold maxLen; omega
  case m3 => omega
  intro w1 hown hgrow
  have HR0 : Hid (w1.ownsRow (w.heap.size + 1) 4 1 (.slice (some ⟨w.heap.size + 1, 0, none⟩) nt nt) nt (boolCells (toldL nt []))) := by
    show w1.ownsRow _ _ _ _ _ _
    rw [toldL_nil, boolCells_rep, ← toList_madeCells_one]
    simpa [hz, Value.cells] using hown
  have HB1 := Lib.hid ((Below.refl (w.heap.size + 1) W).grown hgrow (by omega) (fun k h => by cases h))
  have hzt := (HR0.out.lt _ rfl).2
  clear hown hgrow
  go_wp2_with fail
  go_loopg [3] nt (fun g v3 wr => ∃ l : List Nat, g + l.length = nt ∧ Hid (OrdAt G l) ∧ Hid (wr.ownsRow (w.heap.size + 2) 3 1 v3 l.length (natCells l)) ∧ Hid (wr.ownsRow (w.heap.size + 1) 4 1 (.slice (some ⟨w.heap.size + 1, 0, none⟩) nt nt) nt (boolCells (toldL nt l))) ∧ Hid (Below (w.heap.size + 1) W wr))
  case atStart => exact ⟨[], rfl, OrdAt.nil G, World.ownsRow_nil _ _ _ _, HR0, HB1⟩
  case round =>
    obtain ⟨l, hgl, HO, HR, HT, HW⟩ := hrel
    obtain ⟨go, hgo⟩ : ∃ go, go = gk := ⟨_, rfl⟩
    rw [← hgo] at hgl
    obtain ⟨A3, c3, rfl⟩ := own_shapeG HR.out
    have e1 := (HW.out.cell (p := ⟨w.heap.size, 1, none⟩) (by show w.heap.size < _; omega)).trans c1
    have hsz := (HT.out.lt _ rfl).2
    by_cases hll : l.length < nt
    · have b0 : (l.length : Int) < (nt : Int) := by omega
      go_wp2_with fail
      go_loopg [3, 5] nt (fun g v3 v5 wr' => ∃ i : Nat, g + i = nt ∧ v3 = .slice A3 l.length c3 ∧ v5 = .int .i64 i ∧ Hid (∀ j, j < i → free G l j = false) ∧ wr' = wr)
      case atStart => exact ⟨0, rfl, rfl, rfl, fun j hj => by omega, rfl⟩
      case round =>
        obtain ⟨i, hgi, rfl, rfl, HF, rfl⟩ := hrel
        obtain ⟨gi, hgi'⟩ : ∃ gi, gi = gk := ⟨_, rfl⟩
        rw [← hgi'] at hgi
        by_cases hli : i < nt
        · obtain ⟨a, B, r, c, ha, hx, hab, g0, gin⟩ := GA.out.2 i hli
          subst ha
          have e0 := (HW.out.cell (p := a.add i) (by rw [addBlockT]; omega)).trans g0
          have hrr := (intG_at hx).1
          have hrl : r.length = (row G i).length := by rw [hrr, List.length_map]
          have HRB := HL.out r (memOf hx)
          have HRI := Lib.hid (show IntsAt W B r.length ((row G i).map Int.ofNat) by rw [← hrr]; exact gin)
          rw [hrl] at e0 HRI HRB
          have d0 : (0 : Int) ≤ (i : Int) := by omega
          have d1 : (i : Int) < (nt : Int) := by omega
          have f0 := own_boolG HT.out (k := i) (by rw [toldL_len]; exact hli)
          rw [mk_toldL hli] at f0
          clear hx gin hrr g0
          go_wp2_with fail
          go_loopg [6, 7] (row G i).length (fun g v6 v7 wr' => ∃ k : Nat, g + k = (row G i).length ∧ v6 = .bool (freeK G l i k) ∧ v7 = .int .i64 k ∧ wr' = wr)
          case atStart => exact ⟨0, rfl, by rw [freeK_zero]; simp, rfl, rfl⟩
          case round =>
            obtain ⟨k, hgk, rfl, rfl, rfl⟩ := hrel
            by_cases hlk : k < (row G i).length
            · have k0 : (0 : Int) ≤ (k : Int) := by omega
              have k1 : (k : Int) < ((row G i).length : Int) := by omega
              obtain ⟨bB, k', hB', hk, hkb, k0'⟩ := HRI.out.2 k hlk
              subst hB'
              rw [List.getElem?_map, List.getElem?_eq_getElem hlk] at hk
              obtain ⟨q, hq⟩ : ∃ q, (row G i)[k] = q := ⟨_, rfl⟩
              rw [hq] at hk
              obtain rfl : (q : Int) = k' := by simpa using hk
              have hq1 : (row G i)[k]? = some q := by rw [List.getElem?_eq_getElem hlk, hq]
              have hqN : q < nt := by rw [← HN.out]; exact HOK.out _ _ (List.mem_of_getElem? hq1)
              have e2 := (HW.out.cell (p := bB.add k) (by rw [addBlockT]; omega)).trans k0'
              have f2 := own_boolG HT.out (k := q) (by rw [toldL_len]; exact hqN)
              rw [mk_toldL hqN] at f2
              have q0 : (0 : Int) ≤ (q : Int) := by omega
              have q1 : (q : Int) < (nt : Int) := by omega
              have HNX := Lib.hid (freeK_next (l := l) hq1)
              clear hk hq hq1 k0'
              cases hfk : freeK G l i k with
              | true =>
                rw [hfk] at HNX
                have HNX2 : Hid (freeK G l i (k + 1) = l.contains q) := by show _ = _; rw [HNX.out]; rfl
                clear hfk
                go_wp2
                go_roundg (gk - 1)
                case measure => omega
                case rel => exact ⟨k + 1, by omega, by rw [HNX2.out]; try simp, by go_num, rfl⟩
              | false =>
                rw [hfk] at HNX
                have HNX2 : Hid (freeK G l i (k + 1) = false) := by show _ = _; rw [HNX.out]; rfl
                clear hfk
                go_wp2
                go_roundg (gk - 1)
                case measure => omega
                case rel => exact ⟨k + 1, by omega, by rw [HNX2.out]; try simp, by go_num, rfl⟩
            · obtain rfl : k = (row G i).length := by omega
              rw [freeK_end]
              cases hfr : free G l i with
              | true =>
                have hpk := pick_first HF.out (by rw [HN.out]; exact hli) hfr
                have HP := Lib.hid hpk
                have hni : l.contains i = false := by
                  have := (pick_some hpk).2.1
                  simpa using this
                rw [hni] at f0
                have f1 := HT.out.frozenAt i
                have HR2 := ownsRow_setCell_below HR.out (a := ⟨w.heap.size + 1, i, none⟩) (by show w.heap.size + 1 < _; omega) (.bool true)
                have HT2 := (HT.out.stored i (.bool true)).1
                rw [boolCells_set, toldL_set] at HT2
                have HW2 := HW.out.setCell (p := ⟨w.heap.size + 1, i, none⟩) (Nat.le_refl _) (.bool true)
                have hll' := (OrdAt.snoc HO.out hpk).1.len
                rw [List.length_append, HN.out] at hll'
                simp at hll'
                clear hpk hfr hni
                go_wp2_with (at_builtin; refine wpList_append_own _ rfl _ _ 35 rfl (w.heap.size + 2) 3 i0 (.int .i64 0) 1 8 Tryd.underlying35 hi0 hz0 hz1 hz2 rfl (by decide) _ _ _ rfl (HR2.alloc _) ⟨_, 0, none⟩ 1 1 [.int .i64 i] rfl rfl ?c1 ?c2 ?c3 ?c4 ?c5 ?_)
                case c1 =>
                  have := oneCellG (wr.setCell ⟨w.heap.size + 1, i, none⟩ (.bool true)) (.int .i64 (i : Int)) 3
                  simpa only [World.size_setCell] using this
                case c2 => intro u hu; simp at hu; subst hu; rfl
                case c3 => unfold maxLen; omega
                case c4 => omega
                case c5 => simp; omega
                intro v' w3 hown' hgrow _
                have HR3 := Lib.hid hown'
                have hg3 : ∀ g, (Value.slice A3 l.length c3).ownBlock = some g → w.heap.size + 2 ≤ g := fun g h => (HR2.lt g h).1
                have HT3 := Lib.hid ((HT2.kept (World.grownBy_alloc _ (.cells #[.int .i64 i] 3) none) (.inr (by simp [Value.ownBlock]))).kept hgrow (.inr (fun e => by have := hg3 (w.heap.size + 1) e.symm; omega)))
                have HW3 := Lib.hid ((HW2.alloc (by simp; omega) (.cells #[.int .i64 i] 3)).grown hgrow (by simp; omega) (fun g h => by have := hg3 g h; omega))
                clear hown' hgrow HR2 HT2 HW2 hg3 f0 f1 e0 e1
                go_wp2
                go_roundg (go - 1)
                case measure => omega
                case rel =>
                  refine ⟨l ++ [i], by rw [List.length_append]; simp; omega, OrdAt.snoc HO.out HP.out, ?_, HT3, HW3⟩
                  rw [natCells_snoc, List.length_append]; exact HR3
              | false =>
                have HF' := Lib.hid (free_no HF.out hfr)
                clear hfr
                go_wp2
                go_roundg (gi - 1)
                case measure => omega
                case rel => exact ⟨i + 1, by omega, rfl, by go_num, HF', rfl⟩
        · obtain rfl : i = nt := by omega
          exfalso
          have h1 := HO.out.done (pick_last (by rw [HN.out]; exact HF.out))
          have h2 := HFU.out
          rw [h1] at h2
          omega
    · have hle : l.length = nt := by
        have := HO.out.1.len
        rw [HN.out] at this; omega
      have HE : Hid (orderN G = l) := HO.out.done (by
        cases hp : pick G l with
        | none => rfl
        | some i => exact absurd (HO.out.1.full (by rw [hle, HN.out]) i (pick_some hp).1) (pick_some hp).2.1)
      have b0 : ¬ (l.length : Int) < (nt : Int) := by omega
      go_wp2
      go_ret
      rw [HE.out]
      have HR' := HR.out
      rw [hle] at HR'
      exact ⟨A3, c3, rfl, own_lowerG HR' (by omega), (HB.out.trans (HW.out.mono (by omega)))⟩
end Go.Proofs.YtignndcjblfocaaDoor
/- The reference's Depths. Conditions: at most 2^20 places. -/
namespace Go.Proofs.YtignndcjblfocaaDoor
open Go.RowKit Go.Proofs.YtignndcjblfocaaDoor.GraphPlain
theorem most_next {G : Gr} {d : List Nat} {i k q : Nat} (h : (row G i)[k]? = some q) : max (mostN d ((row G i).take k)) (sn d q) = mostN d ((row G i).take (k + 1)) := by
  rw [List.take_add_one, h]
  show _ = mostN d ((row G i).take k ++ [q])
  rw [mostN_snoc]
set_option maxHeartbeats 8000000 in
set_option maxRecDepth 100000 in
theorem rdepths_any (An : Option Addr) (nn cn : Nat) (At : Option Addr) (nt ct : Nat) (G : Gr) (w : World) (hg : GrAt w At nt (intG G)) (hok : okG G) (hb : ∀ r ∈ intG G, r.length ≤ 9223372036854775806) (hnt : nt ≤ 1048576) :
    Calls Tryd.prog 21 #[grV An nn cn At nt ct] w fun e w' => ∃ A c, e = .returned (.slice A nt c) ∧ w'.ownsRow w.heap.size 3 1 (.slice A nt c) nt (natCells (depthsN G)) ∧ Below w.heap.size w w' := by
  obtain ⟨i0, hi0, hz0, hz1, hz2⟩ := info_parts Tryd.infoInt
  obtain ⟨W, hW, hB, hz, c0, c1⟩ := grBox w An nn cn At nt ct 30
  have GA := Lib.hid (hg.below hB)
  have HB := Lib.hid hB
  have HL := Lib.hid hb
  have HN := Lib.hid (show G.length = nt by have := hg.1; unfold intG at this; simpa using this)
  have HOK := Lib.hid hok
  clear hB hg hb hok
  unfold grV
  go_enter Tryd.func21, Tryd.ntmps21
  go_wp2_with (at_make; refine wpList_make_full _ rfl _ _ 35 rfl (w.heap.size + 1) 3 i0 (.int .i64 0) 1 Tryd.underlying35 hi0 hz0 hz1 .i64 .i64 _ _ nt rfl rfl rfl rfl ?m1 ?m2 ?m3 ?_)
  case m1 => rw [hz2]; omega
  case m2 => unfold maxLen; omega
  case m3 => omega
  intro w1 hown hgrow
  have HR0 : Hid (w1.ownsRow (w.heap.size + 1) 3 1 (.slice (some ⟨w.heap.size + 1, 0, none⟩) nt nt) nt (natCells (deepR G 0))) := by
    show w1.ownsRow _ _ _ _ _ _
    rw [show deepR G 0 = List.replicate G.length 0 from rfl, HN.out, natCells_rep, ← toList_madeCells_one]
    simpa [hz, Value.cells] using hown
  have HB1 := Lib.hid ((Below.refl (w.heap.size + 1) W).grown hgrow (by omega) (fun k h => by cases h))
  clear hown hgrow
  go_wp2_with fail
  go_loopg [4] (nt + 1) (fun g v wr => ∃ m : Nat, g + m = nt + 1 ∧ v = .int .i64 m ∧ Hid (wr.ownsRow (w.heap.size + 1) 3 1 (.slice (some ⟨w.heap.size + 1, 0, none⟩) nt nt) nt (natCells (deepR G m))) ∧ Hid (Below (w.heap.size + 1) W wr))
  case atStart => exact ⟨0, rfl, rfl, HR0, HB1⟩
  case round =>
    obtain ⟨m, hgm, rfl, HR, HW⟩ := hrel
    obtain ⟨go, hgo⟩ : ∃ go, go = gk := ⟨_, rfl⟩
    rw [← hgo] at hgm
    by_cases hlm : m ≤ nt
    · have b0 : (0 : Int) ≤ (m : Int) := by omega
      have b1 : (m : Int) ≤ (nt : Int) := by omega
      have e1 := (HW.out.cell (p := ⟨w.heap.size, 1, none⟩) (by show w.heap.size < _; omega)).trans c1
      go_wp2_with fail
      go_loopg [5] nt (fun g v wr' => ∃ i : Nat, g + i = nt ∧ v = .int .i64 i ∧ Hid (wr'.ownsRow (w.heap.size + 1) 3 1 (.slice (some ⟨w.heap.size + 1, 0, none⟩) nt nt) nt (natCells (deepTo G (deepR G m) i))) ∧ Hid (Below (w.heap.size + 1) W wr'))
      case atStart => exact ⟨0, rfl, rfl, HR, HW⟩
      case round =>
        clear e1
        obtain ⟨i, hgi, rfl, HR1, HW1⟩ := hrel
        obtain ⟨gi, hgi'⟩ : ∃ gi, gi = gk := ⟨_, rfl⟩
        rw [← hgi'] at hgi
        have e1 := (HW1.out.cell (p := ⟨w.heap.size, 1, none⟩) (by show w.heap.size < _; omega)).trans c1
        by_cases hli : i < nt
        · obtain ⟨a, B, r, c, ha, hx, hab, g0, gin⟩ := GA.out.2 i hli
          subst ha
          have e0 := (HW1.out.cell (p := a.add i) (by rw [addBlockT]; omega)).trans g0
          have hrr := (intG_at hx).1
          have hrl : r.length = (row G i).length := by rw [hrr, List.length_map]
          have HRB := HL.out r (memOf hx)
          have HRI := Lib.hid (show IntsAt W B r.length ((row G i).map Int.ofNat) by rw [← hrr]; exact gin)
          rw [hrl] at e0 HRI HRB g0
          have d0 : (0 : Int) ≤ (i : Int) := by omega
          have d1 : (i : Int) < (nt : Int) := by omega
          have HTL : Hid ((deepTo G (deepR G m) i).length = nt) := by show _ = _; rw [deepTo_len, deepR_len, HN.out]
          have HST : Hid (deepTo G (deepR G m) (i + 1) = deepI G (deepTo G (deepR G m) i) i) := rfl
          have HLE : Hid (∀ x, sn (deepTo G (deepR G m) i) x ≤ 1099513724928) := fun x => by
            have h1 := deepTo_le (deepR_len G m) (deepR_le G m) i (by rw [HN.out]; omega) x
            have h2 : m * G.length ≤ 1048576 * 1048576 := Nat.mul_le_mul (by omega) (by rw [HN.out]; omega)
            omega
          generalize deepTo G (deepR G m) i = d at *
          clear hx gin hrr
          go_wp2_with fail
          go_loopg [6, 7] (row G i).length (fun g v6 v wr' => ∃ k : Nat, g + k = (row G i).length ∧ v6 = .int .i64 (mostN d ((row G i).take k) : Nat) ∧ v = .int .i64 k ∧ wr' = wr)
          case atStart => exact ⟨0, rfl, rfl, rfl, rfl⟩
          case round =>
            obtain ⟨k, hgk, rfl, rfl, rfl⟩ := hrel
            by_cases hlk : k < (row G i).length
            · have k0 : (0 : Int) ≤ (k : Int) := by omega
              have k1 : (k : Int) < ((row G i).length : Int) := by omega
              obtain ⟨bB, k', hB', hk, hkb, k0'⟩ := HRI.out.2 k hlk
              subst hB'
              rw [List.getElem?_map, List.getElem?_eq_getElem hlk] at hk
              obtain ⟨q, hq⟩ : ∃ q, (row G i)[k] = q := ⟨_, rfl⟩
              rw [hq] at hk
              obtain rfl : (q : Int) = k' := by simpa using hk
              have hq1 : (row G i)[k]? = some q := by rw [List.getElem?_eq_getElem hlk, hq]
              have hqN : q < nt := by rw [← HN.out]; exact HOK.out _ _ (List.mem_of_getElem? hq1)
              have e2 := (HW1.out.cell (p := bB.add k) (by rw [addBlockT]; omega)).trans k0'
              have f0 := own_cellG HR1.out (k := q) (by rw [HTL.out]; exact hqN)
              have q0 : (0 : Int) ≤ (q : Int) := by omega
              have q1 : (q : Int) < (nt : Int) := by omega
              have HM := Lib.hid (most_next (d := d) hq1)
              have g1 := mostN_le (r := (row G i).take k) fun x _ => HLE.out x
              have g2 := HLE.out q
              clear hk hq k0' hq1
              generalize mostN d ((row G i).take k) = u at *
              generalize sn d q = v at *
              have hmx : ((max u v : Nat) : Int) = if u < v then (v : Int) else (u : Int) := by split <;> omega
              have HM2 : Hid ((mostN d ((row G i).take (k + 1)) : Int) = if u < v then (v : Int) else (u : Int)) := by show _ = _; rw [← HM.out, hmx]
              clear hmx
              go_wp2_with fail
              all_goals
                go_roundg (gk - 1)
                case measure => omega
                case rel => exact ⟨k + 1, by omega, by rw [HM2.out]; split <;> first | rfl | omega, by go_num, rfl⟩
            · obtain rfl : k = (row G i).length := by omega
              have hHR := HR1.out
              have f1 := own_cellG hHR (k := i) (by rw [HTL.out]; exact hli)
              have f2 := hHR.frozenAt i
              rw [List.take_length]
              have HS := hHR.stored i (.int .i64 ((mostN d (row G i) + 1 : Nat) : Int))
              rw [natCells_set, show d.set i (mostN d (row G i) + 1) = deepI G d i from rfl, ← HST.out] at HS
              have HS2 := Lib.hid (HW1.out.setCell (p := ⟨w.heap.size + 1, i, none⟩) (Nat.le_refl _) (.int .i64 ((mostN d (row G i) + 1 : Nat) : Int)))
              have HS1 := Lib.hid HS.1
              have g1 := mostN_le (r := row G i) fun x _ => HLE.out x
              generalize mostN d (row G i) = u at *
              rw [show ((u + 1 : Nat) : Int) = (u : Int) + 1 by omega] at HS1 HS2
              clear HS hHR
              go_wp2
              go_roundg (gi - 1)
              case measure => omega
              case rel => exact ⟨i + 1, by omega, by go_num, HS1, HS2⟩
        · obtain rfl : i = nt := by omega
          have HR3 := Lib.hid (show wr.ownsRow (w.heap.size + 1) 3 1 (.slice (some ⟨w.heap.size + 1, 0, none⟩) i i) i (natCells (deepR G (m + 1))) by rw [show deepR G (m + 1) = deepTo G (deepR G m) i by rw [← HN.out]; rfl]; exact HR1.out)
          go_wp2
          go_roundg (go - 1)
          case measure => omega
          case rel => exact ⟨m + 1, by omega, by go_num, HR3, HW1⟩
    · obtain rfl : m = nt + 1 := by omega
      have e1 := (HW.out.cell (p := ⟨w.heap.size, 1, none⟩) (by show w.heap.size < _; omega)).trans c1
      have HLN : Hid (depthsN G = deepR G (nt + 1)) := by show depthsN G = _; unfold depthsN; rw [HN.out]
      have b1 : ¬ ((nt + 1 : Nat) : Int) ≤ (nt : Int) := by omega
      go_wp2
      go_ret
      rw [HLN.out]
      exact ⟨_, _, rfl, own_lowerG HR.out (by omega), HB.out.trans (HW.out.mono (by omega))⟩
end Go.Proofs.YtignndcjblfocaaDoor
