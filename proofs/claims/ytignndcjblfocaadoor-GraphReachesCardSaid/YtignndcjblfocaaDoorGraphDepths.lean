/- graph.Depths. Conditions: at most 2^20 places. -/
import Derived.Test.YtignndcjblfocaaDoorGraphOrders
import Derived.Deep.RegionHeld3
namespace Go.Proofs.YtignndcjblfocaaDoor
open Go.RowKit Go.Proofs.YtignndcjblfocaaDoor.GraphPlain
theorem natCells_eq (l : List Nat) : natCells l = numCells (l.map Int.ofNat) := by simp [natCells, numCells]
theorem natCells_len (l : List Nat) : (natCells l).length = l.length := by simp [natCells]
theorem natCells_at {l : List Nat} {k : Nat} (h : k < l.length) : (natCells l)[k]? = some (.int .i64 (sn l k : Int)) := by
  unfold natCells sn
  rw [List.getElem?_map, List.getD_eq_getElem?_getD, List.getElem?_eq_getElem h]; rfl
theorem natCells_set (l : List Nat) (k v : Nat) : (natCells l).set k (.int .i64 (v : Int)) = natCells (l.set k v) := by
  unfold natCells; rw [List.map_set]
theorem natCells_rep (n : Nat) : natCells (List.replicate n 0) = List.replicate n (.int .i64 0) := by simp [natCells]
theorem own_cellG {w : World} {base : Nat} {e : TypeId} {T n c : Nat} {d : List Nat} (h : w.ownsRow base e 1 (.slice (some ⟨T, 0, none⟩) n c) n (natCells d)) {k : Nat} (hk : k < d.length) : w.cell? ⟨T, k, none⟩ = some (.int .i64 (sn d k : Int)) := by
  have := h.cells rfl k _ (natCells_at hk)
  rwa [addT] at this
/-- What the inner loop does with one row. -/
def deepJ (G : Gr) (d : List Nat) (i j : Nat) : List Nat := d.set i (mostN d ((row G i).take j))
theorem deepJ_zero {G : Gr} {d : List Nat} {i : Nat} (h : sn d i = 0) : deepJ G d i 0 = d := by
  unfold deepJ
  refine list_ext_sn (by simp) fun x hx => ?_
  rw [sn_set]
  by_cases e : x = i ∧ i < d.length
  · rw [if_pos e, e.1, h]; rfl
  · rw [if_neg e]
theorem sn_deepJ {G : Gr} {d : List Nat} {i j x : Nat} (hi : i < d.length) : sn (deepJ G d i j) x = if x = i then mostN d ((row G i).take j) else sn d x := by
  unfold deepJ
  rw [sn_set]
  by_cases e : x = i
  · rw [if_pos ⟨e, hi⟩, if_pos e]
  · rw [if_neg (fun h => e h.1), if_neg e]
theorem deepJ_next {G : Gr} {d : List Nat} {i j k : Nat} (hk : (row G i)[j]? = some k) : (deepJ G d i j).set i (max (mostN d ((row G i).take j)) (sn d k)) = deepJ G d i (j + 1) := by
  unfold deepJ
  rw [List.set_set, List.take_add_one, hk]
  show d.set i _ = d.set i (mostN d ((row G i).take j ++ [k]))
  rw [mostN_snoc]
theorem deepJ_end {G : Gr} {d : List Nat} {i : Nat} : (deepJ G d i (row G i).length).set i (mostN d (row G i) + 1) = deepI G d i := by
  unfold deepJ deepI
  rw [List.set_set]
set_option maxHeartbeats 4000000 in
theorem depths_bad (An : Option Addr) (nn cn : Nat) (At : Option Addr) (nt ct : Nat) (R : List (List Int)) (w : World) (hg : GrAt w At nt R) (hb : ∀ r ∈ R, r.length ≤ 9223372036854775806) (hnt : nt ≤ 1048576) (hr : rightN nn R = false) :
    Calls Tryd.prog 16 #[grV An nn cn At nt ct] w fun e w' => e = .returned (.tuple #[.slice none 0 0, .int .i64 2]) ∧ Below w.heap.size w w' := by
  obtain ⟨W, hW, hB, hz, c0, c1⟩ := grBox w An nn cn At nt ct 28
  have C := Lib.hid (order_bad An nn cn At nt ct R W (hg.below hB) hb hnt hr)
  have HB := Lib.hid hB
  clear hB hg hb hr
  unfold grV at C ⊢
  go_enter Tryd.func16, Tryd.ntmps16
  go_wp2_with fail
  refine C.out.mono ?_
  rintro e w' ⟨rfl, hB'⟩
  have HB' := Lib.hid (HB.out.trans (hB'.mono (by omega)))
  clear hB'
  go_wp2
  go_ret2
  exact ⟨rfl, HB'.out⟩
set_option maxHeartbeats 8000000 in
set_option maxRecDepth 100000 in
theorem depths_good (An : Option Addr) (nn cn : Nat) (At : Option Addr) (nt ct : Nat) (G : Gr) (w : World) (hg : GrAt w At nt (intG G)) (hok : okG G) (hb : ∀ r ∈ intG G, r.length ≤ 9223372036854775806) (hnt : nt ≤ 1048576) (hr : rightN nn (intG G) = true) :
    Calls Tryd.prog 16 #[grV An nn cn At nt ct] w fun e w' =>
      ((orderN G).length < nt ∧ e = .returned (.tuple #[.slice none 0 0, .int .i64 8]) ∨
        (orderN G).length = nt ∧ ∃ A c, e = .returned (.tuple #[.slice A nt c, .int .i64 0]) ∧ w'.ownsRow w.heap.size 3 1 (.slice A nt c) nt (natCells (deepO G (orderN G)))) ∧ Below w.heap.size w w' := by
  obtain ⟨i0, hi0, hz0, hz1, hz2⟩ := info_parts Tryd.infoInt
  obtain ⟨W, hW, hB, hz, c0, c1⟩ := grBox w An nn cn At nt ct 28
  have C := Lib.hid (order_good An nn cn At nt ct G W (hg.below hB) hok hb hnt hr)
  have HB := Lib.hid hB
  have HG := Lib.hid (hg.below hB)
  have HOK := Lib.hid hok
  have HL := Lib.hid hb
  have HN := Lib.hid (show G.length = nt by have := hg.1; unfold intG at this; simpa using this)
  clear hB hg hb hr hok
  unfold grV at C ⊢
  go_enter Tryd.func16, Tryd.ntmps16
  go_wp2_with fail
  refine C.out.mono ?_
  rintro e w1 ⟨h1, hB1⟩
  have c1' := (hB1.cell (p := ⟨w.heap.size, 1, none⟩) (by show w.heap.size < _; omega)).trans c1
  have HB1 := Lib.hid (HB.out.trans (hB1.mono (by omega)))
  have HG1 := Lib.hid (HG.out.below hB1)
  have hz1' := hB1.size
  clear hB1 c0 c1 C
  rcases h1 with ⟨h1, rfl⟩ | ⟨h1, A, c, rfl, hown⟩
  · go_wp2
    go_ret2
    exact ⟨.inl ⟨h1, rfl⟩, HB1.out⟩
  · have HGO := Lib.hid (orderN_good G)
    have HO1 := Lib.hid h1
    have HI : Hid (IntsAt w1 A nt ((orderN G).map Int.ofNat)) := by
      have := IntsAt.of_own (xs := (orderN G).map Int.ofNat) (A := A) (c := c) (base := W.heap.size) (e := 3) (w := w1) (by rw [List.length_map, h1, ← natCells_eq]; exact hown)
      rwa [List.length_map, h1] at this
    clear hown h1
    obtain ⟨l, hl⟩ : ∃ l, orderN G = l := ⟨_, rfl⟩
    have HLE := Lib.hid hl
    have HGO := Lib.hid (show GraphPlain.Good G l by rw [← hl]; exact HGO.out)
    have HO1 := Lib.hid (show l.length = nt by rw [← hl]; exact HO1.out)
    have HI := Lib.hid (show IntsAt w1 A nt (l.map Int.ofNat) by rw [← hl]; exact HI.out)
    clear hl
    go_wp2_with (at_make; refine wpList_make_full _ rfl _ _ 35 rfl w1.heap.size 3 i0 (.int .i64 0) 1 Tryd.underlying35 hi0 hz0 hz1 .i64 .i64 _ _ nt rfl rfl rfl rfl ?m1 ?m2 ?m3 ?_)
    case m1 => rw [hz2]; omega
    case m2 => unfold maxLen; omega
    case m3 => omega
    intro w2 hown hgrow
    have HR0 : Hid (w2.ownsRow w1.heap.size 3 1 (.slice (some ⟨w1.heap.size, 0, none⟩) nt nt) nt (natCells (deepO G (l.take 0)))) := by
      show w2.ownsRow _ _ _ _ _ _
      rw [show deepO G (l.take 0) = List.replicate G.length 0 by simp [deepO], HN.out, natCells_rep, ← toList_madeCells_one]
      simpa [Value.cells] using hown
    have HB2 := Lib.hid ((Below.refl w1.heap.size w1).grown hgrow (Nat.le_refl _) (fun k h => by cases h))
    clear hown hgrow
    go_wp2_with fail
    go_loopg [24] nt (fun g v24 wr => ∃ m : Nat, g + m = nt ∧ v24 = .int .i64 m ∧ Hid (wr.ownsRow w1.heap.size 3 1 (.slice (some ⟨w1.heap.size, 0, none⟩) nt nt) nt (natCells (deepO G (l.take m)))) ∧ Hid (Below w1.heap.size w1 wr))
    case atStart => exact ⟨0, rfl, rfl, HR0, HB2⟩
    case round =>
      obtain ⟨m, hgm, rfl, HR, HW⟩ := hrel
      obtain ⟨go, hgo⟩ : ∃ go, go = gk := ⟨_, rfl⟩
      rw [← hgo] at hgm
      by_cases hlt : m < nt
      · have b0 : (0 : Int) ≤ (m : Int) := by omega
        have b1 : (m : Int) < (nt : Int) := by omega
        have hlm : m < l.length := by rw [HO1.out]; exact hlt
        obtain ⟨i, hi⟩ : ∃ i, sn l m = i := ⟨_, rfl⟩
        have hiN : i < nt := by rw [← HN.out, ← hi]; exact HGO.out.bound _ (sn_mem hlm)
        have HGm := Lib.hid (HGO.out.init m)
        have hlen : (l.take m).length = m := by rw [List.length_take]; omega
        obtain ⟨hnew, hrow⟩ := HGO.out.newAt hlm
        have HTK := Lib.hid (take_sn hlm)
        rw [hi] at hnew hrow HTK
        have hz0 : sn (deepO G (l.take m)) i = 0 := deepO_zero HGm.out i hnew
        have hdl : (deepO G (l.take m)).length = nt := by rw [deepO_len, HN.out]
        have hdle : ∀ x, sn (deepO G (l.take m)) x ≤ m := fun x => Nat.le_trans (deepO_le HGm.out x) (by omega)
        have HD : Hid (deepO G (l.take (m + 1)) = deepI G (deepO G (l.take m)) i) := by show _ = _; rw [HTK.out, deepO_snoc]
        have HR' := Lib.hid (show wr.ownsRow w1.heap.size 3 1 (.slice (some ⟨w1.heap.size, 0, none⟩) nt nt) nt (natCells (deepJ G (deepO G (l.take m)) i 0)) by rw [deepJ_zero hz0]; exact HR.out)
        generalize deepO G (l.take m) = d at *
        -- the row of i
        obtain ⟨a, B, r, cr, ha, hx, hab, g0, gi⟩ := HG1.out.2 i hiN
        subst ha
        have e0 := (HW.out.cell (p := a.add i) (by rw [addBlockT]; exact hab)).trans g0
        obtain ⟨b, y, hb', hy, hbb, i1⟩ := HI.out.2 m hlt
        subst hb'
        have hyi : y = (i : Int) := by
          rw [List.getElem?_map, List.getElem?_eq_getElem hlm] at hy
          unfold sn at hi
          rw [List.getD_eq_getElem?_getD, List.getElem?_eq_getElem hlm] at hi
          simp at hy hi
          rw [← hy, hi]
        subst hyi
        have i2 := (HW.out.cell (p := b.add m) (by rw [addBlockT]; exact hbb)).trans i1
        have x0 := (HW.out.cell (p := ⟨w.heap.size, 1, none⟩) (by show w.heap.size < _; omega)).trans c1'
        have b2 : (0 : Int) ≤ (i : Int) := by omega
        have b3 : (i : Int) < (nt : Int) := by omega
        have hrr := (intG_at hx).1
        have HRI := Lib.hid (show IntsAt w1 B r.length ((row G i).map Int.ofNat) by rw [← hrr]; exact gi)
        have hrl : r.length = (row G i).length := by rw [hrr, List.length_map]
        rw [hrl] at e0 HRI
        have HRB := HL.out r (memOf hx)
        rw [hrl] at HRB
        have hnewI := Lib.hid hnew
        clear hx hy g0 gi i1 hrr HR hi hnew hz0
        go_wp2_with fail
        go_loopg [34] (row G i).length (fun g v34 wr' => ∃ j : Nat, g + j = (row G i).length ∧ v34 = .int .i64 j ∧ Hid (wr'.ownsRow w1.heap.size 3 1 (.slice (some ⟨w1.heap.size, 0, none⟩) nt nt) nt (natCells (deepJ G d i j))) ∧ Hid (Below w1.heap.size w1 wr'))
        case atStart => exact ⟨0, rfl, rfl, HR', HW⟩
        case round =>
          obtain ⟨j, hgj, rfl, HR2, HW2⟩ := hrel
          by_cases hj : j < (row G i).length
          · obtain ⟨bB, k, hB', hk, hkb, k0⟩ := HRI.out.2 j hj
            subst hB'
            rw [List.getElem?_map, List.getElem?_eq_getElem hj] at hk
            obtain ⟨q, hq⟩ : ∃ q, (row G i)[j] = q := ⟨_, rfl⟩
            rw [hq] at hk
            obtain rfl : (q : Int) = k := by simpa using hk
            have hq1 : (row G i)[j]? = some q := by rw [List.getElem?_eq_getElem hj, hq]
            have hqi : q ∈ row G i := List.mem_of_getElem? hq1
            have hqN : q < nt := by rw [← HN.out]; exact HOK.out _ _ hqi
            have hne : ¬ q = i := fun e => hnewI.out (e ▸ hrow q hqi)
            have k1 := (HW2.out.cell (p := bB.add j) (by rw [addBlockT]; exact hkb)).trans k0
            have f0 := own_cellG HR2.out (k := q) (by unfold deepJ; rw [List.length_set, hdl]; exact hqN)
            rw [sn_deepJ (by rw [hdl]; exact hiN), if_neg hne] at f0
            have f1 := own_cellG HR2.out (k := i) (by unfold deepJ; rw [List.length_set, hdl]; exact hiN)
            rw [sn_deepJ (by rw [hdl]; exact hiN), if_pos rfl] at f1
            have f2 := HR2.out.frozenAt i
            have HNX := Lib.hid (deepJ_next (d := d) hq1)
            have HST := HR2.out.stored i (.int .i64 ((max (mostN d ((row G i).take j)) (sn d q) : Nat) : Int))
            rw [natCells_set, HNX.out] at HST
            have HST1 := Lib.hid HST.1
            have HST2 := Lib.hid (HW2.out.setCell (p := ⟨w1.heap.size, i, none⟩) (Nat.le_refl _) (.int .i64 ((max (mostN d ((row G i).take j)) (sn d q) : Nat) : Int)))
            have g1 := mostN_le (r := (row G i).take j) fun k _ => hdle k
            have g2 := hdle q
            generalize mostN d ((row G i).take j) = u at *
            generalize sn d q = v at *
            have c0 : (0 : Int) ≤ (j : Int) := by omega
            have c1 : (j : Int) < ((row G i).length : Int) := by omega
            have c2 : (0 : Int) ≤ (q : Int) := by omega
            have c3 : (q : Int) < (nt : Int) := by omega
            clear hk hq hq1 hqi k0 HST hdle hrow HR2 HW2
            go_wp2_with fail
            refine wp_region_held_drew (S := fun w' => w'.cell? ⟨w1.heap.size, q, none⟩ = some (.int .i64 v)) (by kernel_rfl) f0 (fun hHeld => ?_)
            refine wpAnyH_take (i := 0) (oi := ({ dst := some 38, op := Op.move (Operand.tmp 6), type := 35, pos := "graph.go:124", after := #[], guard := none } : Oper)) (v := ?_) rfl (by kernel_rfl) (by kernel_rfl) (by kernel_rfl) (fun _ _ _ h => h) (Or.inl ⟨by rfl, ?_⟩) (by assumption) ?_
            rotate_left 1
            · intro w hSw; (try dsimp only at hSw); go_simp; try with_reducible rfl
            (try simp only [Act.put, List.setIfInBounds_toArray, List.set_cons_zero, List.set_cons_succ])
            refine wpAnyH_take (i := 1) (oi := ({ dst := some 39, op := Op.move (Operand.tmp 8), type := 3, pos := "graph.go:124", after := #[], guard := none } : Oper)) (v := ?_) rfl (by kernel_rfl) (by kernel_rfl) (by kernel_rfl) (fun _ _ _ h => h) (Or.inl ⟨by rfl, ?_⟩) (by assumption) ?_
            rotate_left 1
            · intro w hSw; (try dsimp only at hSw); go_simp; try with_reducible rfl
            (try simp only [Act.put, List.setIfInBounds_toArray, List.set_cons_zero, List.set_cons_succ])
            refine wpAnyH_take (i := 2) (oi := ({ dst := some 40, op := Op.move (Operand.tmp 6), type := 35, pos := "graph.go:124", after := #[], guard := none } : Oper)) (v := ?_) rfl (by kernel_rfl) (by kernel_rfl) (by kernel_rfl) (fun _ _ _ h => h) (Or.inl ⟨by rfl, ?_⟩) (by assumption) ?_
            rotate_left 1
            · intro w hSw; (try dsimp only at hSw); go_simp; try with_reducible rfl
            (try simp only [Act.put, List.setIfInBounds_toArray, List.set_cons_zero, List.set_cons_succ])
            refine wpAnyH_take (i := 3) (oi := ({ dst := some 41, op := Op.move (Operand.tmp 8), type := 3, pos := "graph.go:124", after := #[], guard := none } : Oper)) (v := ?_) rfl (by kernel_rfl) (by kernel_rfl) (by kernel_rfl) (fun _ _ _ h => h) (Or.inl ⟨by rfl, ?_⟩) (by assumption) ?_
            rotate_left 1
            · intro w hSw; (try dsimp only at hSw); go_simp; try with_reducible rfl
            (try simp only [Act.put, List.setIfInBounds_toArray, List.set_cons_zero, List.set_cons_succ])
            refine wpAnyH_take (i := 4) (oi := ({ dst := some 42, op := Op.indexAddr 35 (Operand.tmp 40) (Operand.tmp 41), type := 0, pos := "graph.go:124", after := #[{ on := 2, ground := Ground.data }, { on := 3, ground := Ground.data }], guard := none } : Oper)) (v := ?_) rfl (by kernel_rfl) (by kernel_rfl) (by kernel_rfl) (fun _ _ _ h => h) (Or.inl ⟨by rfl, ?_⟩) (by assumption) ?_
            rotate_left 1
            · intro w hSw; (try dsimp only at hSw); go_simp; try with_reducible rfl
            (try simp only [Act.put, List.setIfInBounds_toArray, List.set_cons_zero, List.set_cons_succ])
            refine wpAnyH_take (i := 6) (oi := ({ dst := some 44, op := Op.move (Operand.tmp 6), type := 35, pos := "graph.go:124", after := #[], guard := none } : Oper)) (v := ?_) rfl (by kernel_rfl) (by kernel_rfl) (by kernel_rfl) (fun _ _ _ h => h) (Or.inl ⟨by rfl, ?_⟩) (by assumption) ?_
            rotate_left 1
            · intro w hSw; (try dsimp only at hSw); go_simp; try with_reducible rfl
            (try simp only [Act.put, List.setIfInBounds_toArray, List.set_cons_zero, List.set_cons_succ])
            refine wpAnyH_take (i := 7) (oi := ({ dst := some 45, op := Op.move (Operand.tmp 10), type := 3, pos := "graph.go:124", after := #[], guard := none } : Oper)) (v := ?_) rfl (by kernel_rfl) (by kernel_rfl) (by kernel_rfl) (fun _ _ _ h => h) (Or.inl ⟨by rfl, ?_⟩) (by assumption) ?_
            rotate_left 1
            · intro w hSw; (try dsimp only at hSw); go_simp; try with_reducible rfl
            (try simp only [Act.put, List.setIfInBounds_toArray, List.set_cons_zero, List.set_cons_succ])
            refine wpAnyH_take (i := 8) (oi := ({ dst := some 46, op := Op.indexAddr 35 (Operand.tmp 44) (Operand.tmp 45), type := 0, pos := "graph.go:124", after := #[{ on := 6, ground := Ground.data }, { on := 7, ground := Ground.data }], guard := none } : Oper)) (v := ?_) rfl (by kernel_rfl) (by kernel_rfl) (by kernel_rfl) (fun _ _ _ h => h) (Or.inl ⟨by rfl, ?_⟩) (by assumption) ?_
            rotate_left 1
            · intro w hSw; (try dsimp only at hSw); go_simp; try with_reducible rfl
            (try simp only [Act.put, List.setIfInBounds_toArray, List.set_cons_zero, List.set_cons_succ])
            refine wpAnyH_take (i := 9) (oi := ({ dst := some 47, op := Op.load 3 (Operand.tmp 46), type := 3, pos := "graph.go:124", after := #[{ on := 8, ground := Ground.data }], guard := none } : Oper)) (v := ?_) rfl (by kernel_rfl) (by kernel_rfl) (by kernel_rfl) (fun _ _ _ h => h) (Or.inl ⟨by rfl, ?_⟩) (by assumption) ?_
            rotate_left 1
            · intro w hSw; (try dsimp only at hSw); go_simp; try with_reducible rfl
            (try simp only [Act.put, List.setIfInBounds_toArray, List.set_cons_zero, List.set_cons_succ])
            refine wpAnyH_ready (rs := [5]) (by kernel_rfl) (by simp) ?_
            refine AllReadyH.cons (o := _) rfl (fun K hK => ?_) AllReadyH.nil
            go_simp
            refine hK.out _ _ hHeld (fun _ => ?_)
            clear hK K
            (try simp only [Act.put, List.setIfInBounds_toArray, List.set_cons_zero, List.set_cons_succ])
            refine wpAnyH_take (i := 10) (oi := ({ dst := some 48, op := Op.call { callee := Callee.builtin Builtin.max, args := #[Operand.tmp 43, Operand.tmp 47], argTypes := #[3, 3] }, type := 3, pos := "graph.go:124", after := #[{ on := 5, ground := Ground.data }, { on := 9, ground := Ground.data }], guard := none } : Oper)) (v := ?_) rfl (by kernel_rfl) (by kernel_rfl) (by kernel_rfl) (fun _ _ _ h => h) (Or.inl ⟨by rfl, ?_⟩) (by assumption) ?_
            rotate_left 1
            · intro w hSw; (try dsimp only at hSw); go_simp; try with_reducible rfl
            (try simp only [Act.put, List.setIfInBounds_toArray, List.set_cons_zero, List.set_cons_succ])
            refine wpAnyH_take (i := 11) (oi := ({ dst := some 49, op := Op.indexAddr 35 (Operand.tmp 38) (Operand.tmp 39), type := 0, pos := "graph.go:124", after := #[{ on := 0, ground := Ground.data }, { on := 1, ground := Ground.data }, { on := 0, ground := Ground.phase }, { on := 1, ground := Ground.phase }, { on := 2, ground := Ground.phase }, { on := 3, ground := Ground.phase }, { on := 4, ground := Ground.phase }, { on := 5, ground := Ground.phase }, { on := 6, ground := Ground.phase }, { on := 7, ground := Ground.phase }, { on := 8, ground := Ground.phase }, { on := 9, ground := Ground.phase }, { on := 10, ground := Ground.phase }], guard := none } : Oper)) (v := ?_) rfl (by kernel_rfl) (by kernel_rfl) (by kernel_rfl) (fun _ _ _ h => h) (Or.inl ⟨by rfl, ?_⟩) (by assumption) ?_
            rotate_left 1
            · intro w hSw; (try dsimp only at hSw); go_simp; try with_reducible rfl
            (try simp only [Act.put, List.setIfInBounds_toArray, List.set_cons_zero, List.set_cons_succ])
            refine wpAnyH_ready (rs := [12]) (by kernel_rfl) (by simp) ?_
            refine AllReadyH.cons (o := _) rfl (fun K hK => ?_) AllReadyH.nil
            go_simp
            have hmx : ((max u v : Nat) : Int) = if u < v then (v : Int) else (u : Int) := by split <;> omega
            rw [hmx] at HST1 HST2
            refine hK.out _ _ ?_ (fun _ => ?_)
            · have hab : (⟨w1.heap.size, i, none⟩ : Addr) ≠ ⟨w1.heap.size, q, none⟩ := fun e => hne (by injection e with _ e _; exact e.symm)
              exact (World.cell?_setCell_other (w := wr) (h := hab) (v := .int .i64 (if u < v then (v : Int) else (u : Int)))).trans f0
            clear hK K
            refine wpAnyH_done (by kernel_rfl) ?_ _
            have HST1' := Lib.hid (show (wr.setCell ⟨w1.heap.size, i, none⟩ (.int .i64 (if u < v then (v : Int) else (u : Int)))).drew.ownsRow w1.heap.size 3 1 (.slice (some ⟨w1.heap.size, 0, none⟩) nt nt) nt (natCells (deepJ G d i (j + 1))) from HST1.out)
            have HST2' := Lib.hid (show Below w1.heap.size w1 (wr.setCell ⟨w1.heap.size, i, none⟩ (.int .i64 (if u < v then (v : Int) else (u : Int)))).drew from HST2.out.trans ⟨rfl, rfl, rfl, Nat.le_refl _, fun _ _ => rfl⟩)
            generalize (wr.setCell ⟨w1.heap.size, i, none⟩ (.int .i64 (if u < v then (v : Int) else (u : Int)))).drew = X at *
            clear HST1 HST2 hmx hHeld f0 f1 f2
            go_wp2
            all_goals
              go_roundg (gk - 1)
              case measure => omega
              case rel => exact ⟨j + 1, by omega, by go_num, HST1', HST2'⟩
          · obtain rfl : j = (row G i).length := by omega
            have hHR := HR2.out
            have f1 := own_cellG hHR (k := i) (by unfold deepJ; rw [List.length_set, hdl]; exact hiN)
            rw [sn_deepJ (by rw [hdl]; exact hiN), if_pos rfl, List.take_length] at f1
            have f2 := hHR.frozenAt i
            have HST := hHR.stored i (.int .i64 ((mostN d (row G i) + 1 : Nat) : Int))
            rw [natCells_set, deepJ_end, ← HD.out] at HST
            have HST1 := Lib.hid HST.1
            have HST2 := Lib.hid (HW2.out.setCell (p := ⟨w1.heap.size, i, none⟩) (Nat.le_refl _) (.int .i64 ((mostN d (row G i) + 1 : Nat) : Int)))
            have g1 := mostN_le (r := row G i) fun k _ => hdle k
            generalize mostN d (row G i) = u at *
            rw [show ((u + 1 : Nat) : Int) = (u : Int) + 1 by omega] at HST1 HST2
            clear HST hHR hdle hrow HR2 HW2
            go_wp2
            go_roundg (go - 1)
            case measure => omega
            case rel => exact ⟨m + 1, by omega, by go_num, HST1, HST2⟩
      · obtain rfl : m = nt := by omega
        have HR' := HR.out
        rw [List.take_of_length_le (by rw [HO1.out]; exact Nat.le_refl _)] at HR'
        have HR2 := Lib.hid HR'
        clear HR HR'
        go_wp2
        go_ret2
        rw [HLE.out]
        exact ⟨.inr ⟨HO1.out, _, _, rfl, own_lowerG HR2.out (by omega)⟩, HB1.out.trans (HW.out.mono (by omega))⟩
end Go.Proofs.YtignndcjblfocaaDoor
