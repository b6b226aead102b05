/- The walk of ScopeHides. Conditions: none. -/
import Derived.Test.YtbamcpnmabpacaaScFinds
namespace Go.Proofs.Ytbamcpnmabpacaa
open Go.RowKit
set_option linter.unusedVariables false
set_option linter.unusedSimpArgs false
theorem lit_bds2 {w W : World} {t : TypeId} {p s p' s' : ByteArray} (h : W.heap[w.heap.size]? = some (.cells #[.string p, .string s, .string p', .string s'] t (0, 0))) : BdsAt W (some ⟨w.heap.size, 0, none⟩) 2 [⟨p, s⟩, ⟨p', s'⟩] := by
  refine ⟨rfl, fun i hi => ?_⟩
  have hlt := (Array.getElem?_eq_some_iff.1 h).1
  match i, hi with
  | 0, _ =>
    refine ⟨_, _, rfl, rfl, ?_⟩
    rw [addGS]
    exact ⟨hlt, by rw [Lib.cell_of_heap h]; rfl, by rw [Lib.cell_of_heap h]; rfl⟩
  | 1, _ =>
    refine ⟨_, _, rfl, rfl, ?_⟩
    rw [addGS]
    exact ⟨hlt, by rw [Lib.cell_of_heap h]; rfl, by rw [Lib.cell_of_heap h]; rfl⟩
theorem mean_two (p z s : ByteArray) (fs : List (List Bd)) : meanF ([⟨p, z⟩, ⟨p, s⟩] :: fs) p = s := by
  unfold meanF boundF
  rw [last_at (j := 1) (b := ⟨p, s⟩) rfl rfl (by simp)]
  rfl
theorem names_len (fs : List (List Bd)) : (namesF fs).length ≤ (fs.map List.length).sum := by
  induction fs with
  | nil => simp [namesF]
  | cons f fs ih =>
    rw [sumTail]
    have := namesL_len f
    simp only [namesF, List.flatMap_cons, List.length_append] at ih ⊢
    omega
theorem uniq_len (fs : List (List Bd)) : (uniqF fs).length ≤ (fs.map List.length).sum := by
  unfold uniqF
  refine Nat.le_trans (Lib.compact_length_le _) ?_
  rw [List.length_mergeSort, List.length_map]
  exact names_len fs
set_option maxRecDepth 100000 in
set_option maxHeartbeats 8000000 in
theorem scopeHides_any (A : Option Addr) (n c : Nat) (ls : List (List Bd)) (p s : ByteArray) (w : World) (h : RowsAt w A n ls) (hn : n ≤ 9223372036854775807) (hs : ∀ f ∈ ls, f.length ≤ 9000000000000000) :
    Calls Try.prog 4 #[.slice A n c, .agg #[.string p, .string s]] w (BelB true w) := by
  obtain ⟨W, hW, hbW, hhW, hltW⟩ := frBox w #[.string p, .string s] 38
  have CG := Lib.hid (great_any A n c ls W (h.below hbW) hn hs)
  have H := Lib.hid (h.below hbW)
  have HBW := Lib.hid hbW
  have HHW := Lib.hid hhW
  have HLT := Lib.hid hltW
  have x0 : W.cell? ⟨w.heap.size, 0, none⟩ = some (.string p) := by rw [Lib.cell_of_heap hhW]; rfl
  have x1 : W.cell? ⟨w.heap.size, 1, none⟩ = some (.string s) := by rw [Lib.cell_of_heap hhW]; rfl
  have HX : Hid (∀ V, Below W.heap.size W V → V.cell? ⟨w.heap.size, 0, none⟩ = some (.string p) ∧ V.cell? ⟨w.heap.size, 1, none⟩ = some (.string s)) := Lib.hid (fun V hb => ⟨(hb.cell (p := ⟨w.heap.size, 0, none⟩) hltW).trans x0, (hb.cell (p := ⟨w.heap.size, 1, none⟩) hltW).trans x1⟩)
  clear h hs hbW hhW hltW x0 x1
  go_enter Try.func4, Try.ntmps4
  go_wp2_with fail
  refine CG.out.mono ?_
  rintro e w1 ⟨bg, rfl, rfl, hbg⟩
  cases bg with
  | true =>
    have CL := Lib.hid (live34_any W)
    go_wp2_with fail
    refine CL.out.mono ?_
    rintro e w2 ⟨rfl, hB2⟩
    go_wp2
    go_ret
    exact ⟨rfl, HBW.out.trans (hB2.mono HBW.out.size)⟩
  | false =>
    obtain ⟨hn30, hs60⟩ := hbg rfl
    have hfl : ∀ f ∈ ls, f.length ≤ 1048576 := fun f hf => Nat.le_trans (le_sum hf) (by omega)
    have CF := fill_any A n c ls W H.out (by omega) hfl
    unfold FillS at CF
    have CF := Lib.hid CF
    have HFL : Hid (∀ f ∈ ls.reverse, f.length ≤ 1048576) := Lib.hid (fun f hf => hfl f (List.mem_reverse.1 hf))
    have HSR : Hid ((ls.reverse.map List.length).sum ≤ 60) := Lib.hid (by rw [List.map_reverse, List.sum_reverse]; exact hs60)
    have hll : ls.reverse.length ≤ 1048576 := by rw [List.length_reverse, H.out.1]; omega
    clear hbg hfl hs60 CG hW
    generalize ls.reverse = fs at *
    go_wp2_with fail
    refine CF.out.mono ?_
    rintro e w2 ⟨g, q, rfl, hsc, hb2⟩
    have HSC := Lib.hid hsc
    have HB2 := Lib.hid hb2
    have HG : Hid (W.heap.size ≤ g) := Lib.hid hsc.gbase
    have CA := Lib.hid (allS_any W.heap.size g fs q w2 hsc (by have := HSR.out; omega))
    clear hsc hb2 CF
    go_wp2_with fail
    refine CA.out.mono ?_
    rintro e w3 ⟨R, c3, rfl, ho3, hb3⟩
    have HO3 := Lib.hid ho3
    have HSC3 := Lib.hid (HSC.out.below hb3)
    have HB3 := Lib.hid (HB2.out.trans (hb3.mono HB2.out.size))
    have HAL : Hid ((allF fs).length ≤ 1048576) := Lib.hid (by
      have h1 := meansF_len fs (uniqF fs)
      have h2 := uniq_len fs
      have := HSR.out
      unfold allF
      omega)
    have HGLT : Hid (g < w2.heap.size) := Lib.hid (Array.getElem?_eq_some_iff.1 HSC.out.blk).1
    clear ho3 hb3 CA
    generalize hal : allF fs = al at *
    have HALE := Lib.hid hal
    clear hal
    obtain ⟨x0, x1⟩ := HX.out _ HB3.out
    obtain ⟨W4, hW4, hb4, hh4, -⟩ := frBox w3 #[.string p, .string ⟨#[122]⟩, .string p, .string s] 40
    have CP := Lib.hid (pushS_any W.heap.size g fs q (some ⟨w3.heap.size, 0, none⟩) 2 [⟨p, ⟨#[122]⟩⟩, ⟨p, s⟩] W4 (HSC3.out.below hb4) (lit_bds2 hh4) (fun h => by cases h) (by show 2 ≤ _; decide) hll (Nat.le_trans HB3.out.size hb4.size))
    have HB4 := Lib.hid (HB3.out.trans (hb4.mono HB3.out.size))
    have HO4 := Lib.hid (ownS_below HO3.out hb4)
    clear hb4 hh4
    go_wp2_with fail
    refine CP.out.mono ?_
    rintro e w5 ⟨rfl, ⟨q5, hq5⟩, hk5⟩
    have HB5 := Lib.hid (HB4.out.trans (hk5.below HB4.out.size HG.out))
    have HO5 := Lib.hid (ownS_same HO4.out (fun j hj => hk5.block j (ownS_blk HO4.out hj).1 (by have h1 := (ownS_blk HO4.out hj).2.1; have h2 := HGLT.out; omega)))
    have CFI := find_any W.heap.size g _ q5 p w5 hq5 (by
      intro f hf
      rcases List.mem_cons.1 hf with e | e
      · subst e; show 2 ≤ _; decide
      · exact HFL.out f e)
    rw [mean_two] at CFI
    have CO := Lib.hid (popS_any W.heap.size g _ fs q5 w5 hq5 hll)
    obtain ⟨⟨x, ok⟩, hxo⟩ : ∃ t, t = ansF s p := ⟨_, rfl⟩
    rw [← hxo] at CFI
    have CFI := Lib.hid CFI
    have HXO := Lib.hid hxo
    obtain ⟨y0, y1⟩ := HX.out _ HB5.out
    clear hq5 hk5 CP hW4 hxo x0 x1
    go_wp2_with fail
    refine CFI.out.mono ?_
    rintro e w6 ⟨rfl, rfl⟩
    by_cases h1 : p = xmlB
    case' pos =>
      have t1 : (p.toList == [120, 109, 108]) = true := by rw [h1]; simp [xmlB, ByteArray.toList_eq]
      clear h1
      go_upto_region 9 with (fail)
    case' neg =>
      have t1 := str_noS h1
      rw [show xmlB.toList = [120, 109, 108] from by simp [xmlB, ByteArray.toList_eq]] at t1
      by_cases h2 : p = xmlnsB
      case' pos =>
        have t2 : (p.toList == [120, 109, 108, 110, 115]) = true := by rw [h2]; simp [xmlnsB, ByteArray.toList_eq]
        clear h1 h2
        go_upto_region 9 with (fail)
      case' neg =>
        have t2 := str_noS h2
        rw [show xmlnsB.toList = [120, 109, 108, 110, 115] from by simp [xmlnsB, ByteArray.toList_eq]] at t2
        have ha : (x, ok) = (s, decide (p = ⟨#[]⟩) || !decide (s = ⟨#[]⟩)) := HXO.out.trans (by unfold ansF; rw [if_neg h1, if_neg h2])
        injection ha with ha1 ha2
        by_cases h3 : p = ⟨#[]⟩
        case' pos =>
          have t3 : (p.toList == []) = true := by rw [h3]; simp [ByteArray.toList_eq]
          have e2 : ok = true := by rw [ha2, decide_eq_true h3]; rfl
          clear h1 h2 h3 ha2 HXO
          subst e2
          rw [ha1]
          clear ha1
          go_upto_region 9 with (fail)
        case' neg =>
          have t3 := str_noS h3
          rw [show (⟨#[]⟩ : ByteArray).toList = [] from by simp [ByteArray.toList_eq]] at t3
          by_cases h4 : s = ⟨#[]⟩
          case' pos =>
            have t4 : (s.toList == []) = true := by rw [h4]; simp [ByteArray.toList_eq]
            have e2 : ok = false := by rw [ha2, decide_eq_false h3, decide_eq_true h4]; rfl
            clear h1 h2 h3 h4 ha2 HXO
            subst e2
            rw [ha1]
            clear ha1
            go_upto_region 9 with (fail)
          case' neg =>
            have t4 := str_noS h4
            rw [show (⟨#[]⟩ : ByteArray).toList = [] from by simp [ByteArray.toList_eq]] at t4
            have e2 : ok = true := by rw [ha2, decide_eq_false h3, decide_eq_false h4]; rfl
            clear h1 h2 h3 h4 ha2 HXO
            subst e2
            rw [ha1]
            clear ha1
            go_upto_region 9 with (fail)
    all_goals
      go_wp2_with fail
      refine CO.out.mono ?_
      rintro e w6 ⟨rfl, ⟨q6, hq6⟩, hk6⟩
      have HSC6 := Lib.hid hq6
      have HB6 := Lib.hid (HB5.out.trans (hk6.below HB5.out.size HG.out))
      have HO6 := Lib.hid (ownS_same HO5.out (fun j hj => hk6.block j (ownS_blk HO5.out hj).1 (by have h1 := (ownS_blk HO5.out hj).2.1; have h2 := HGLT.out; omega)))
      have CA6 := allS_any W.heap.size g fs q6 w6 hq6 (by have := HSR.out; omega)
      unfold AllS at CA6
      rw [HALE.out] at CA6
      have CA6 := Lib.hid CA6
      clear hq6 hk6 CO
      go_wp2_with fail
      refine CA6.out.mono ?_
      rintro e w7 ⟨R7, c7, rfl, ho7, hb7⟩
      have HSC7 := Lib.hid (HSC6.out.below hb7)
      have HO7 := Lib.hid (ownS_below HO6.out hb7)
      have HB7 := Lib.hid (HB6.out.trans (hb7.mono HB6.out.size))
      clear ho7 hb7 CA6
      go_wp2
      go_loopw [9] (fun v9 wr => ∃ i : Nat, i ≤ al.length ∧ v9 = .int .i64 i ∧ Hid (Below w7.heap.size w7 wr)) (fun v9 _ => al.length - (intOf v9).toNat)
      case atStart => exact ⟨0, Nat.zero_le _, rfl, Lib.hid (Below.refl _ _)⟩
      case round =>
        obtain ⟨i, hi, rfl, HBI⟩ := hrel
        have HBW7 := Lib.hid (HB7.out.trans (HBI.out.mono HB7.out.size))
        by_cases hlt : i < al.length
        · obtain ⟨a, z, e0, hz, hzb, z0, z1⟩ := (BdsAt.of_own (ownS_below HO7.out (HBI.out.trans (below_drewS _ wr)))).2 i hlt
          subst e0
          have b0 : (0 : Int) ≤ (i : Int) := by omega
          have b1 : (i : Int) < (al.length : Int) := by omega
          have CAI := allS_any W.heap.size g fs q6 wr.drew (HSC7.out.below (HBI.out.trans (below_drewS _ wr))) (by have := HSR.out; omega)
          unfold AllS at CAI
          rw [HALE.out] at CAI
          have CAI := Lib.hid CAI
          have HBD := Lib.hid (HBI.out.trans (below_drewS _ wr))
          have hal8 := HAL.out
          have HZ := Lib.hid hz
          clear hz
          go_wp2_with fail
          refine wp_region_held_drew (S := fun w' => w'.cell? (a.add (i * 2)) = some (.string z.p) ∧ w'.cell? ⟨(a.add (i * 2)).block, (a.add (i * 2)).off + 1, none⟩ = some (.string z.s)) (by kernel_rfl) ⟨z0, z1⟩ (fun hHeld => ?_)
          generalize wr.drew = V0 at *
          --TAKES narthex/narthexlaw34.ScopeHides:14 0..4 6
          refine wpAnyH_take (i := 0) (oi := ({ dst := some 85, op := Op.move (Operand.tmp 6), type := 32, pos := "law.go:93", after := #[], guard := none } : Oper)) (v := ?_) rfl (by kernel_rfl) (by kernel_rfl) (by kernel_rfl) (fun _ _ _ h => h) (Or.inl ⟨by rfl, ?_⟩) (by assumption) ?_
          rotate_left 1
          · intro w hSw; (try dsimp only at hSw); go_simp; try with_reducible rfl
          (try simp only [Act.put, List.setIfInBounds_toArray, List.set_cons_zero, List.set_cons_succ])
          refine wpAnyH_take (i := 1) (oi := ({ dst := some 86, op := Op.move (Operand.tmp 9), type := 3, pos := "law.go:93", after := #[], guard := none } : Oper)) (v := ?_) rfl (by kernel_rfl) (by kernel_rfl) (by kernel_rfl) (fun _ _ _ h => h) (Or.inl ⟨by rfl, ?_⟩) (by assumption) ?_
          rotate_left 1
          · intro w hSw; (try dsimp only at hSw); go_simp; try with_reducible rfl
          (try simp only [Act.put, List.setIfInBounds_toArray, List.set_cons_zero, List.set_cons_succ])
          refine wpAnyH_take (i := 2) (oi := ({ dst := some 87, op := Op.indexAddr 32 (Operand.tmp 85) (Operand.tmp 86), type := 0, pos := "law.go:93", after := #[{ on := 0, ground := Ground.data }, { on := 1, ground := Ground.data }], guard := none } : Oper)) (v := ?_) rfl (by kernel_rfl) (by kernel_rfl) (by kernel_rfl) (fun _ _ _ h => h) (Or.inl ⟨by rfl, ?_⟩) (by assumption) ?_
          rotate_left 1
          · intro w hSw; (try dsimp only at hSw); go_simp; try with_reducible rfl
          (try simp only [Act.put, List.setIfInBounds_toArray, List.set_cons_zero, List.set_cons_succ])
          refine wpAnyH_take (i := 3) (oi := ({ dst := some 88, op := Op.load 40 (Operand.tmp 87), type := 40, pos := "law.go:93", after := #[{ on := 2, ground := Ground.data }], guard := none } : Oper)) (v := ?_) rfl (by kernel_rfl) (by kernel_rfl) (by kernel_rfl) (fun _ _ _ h => h) (Or.inl ⟨by rfl, ?_⟩) (by assumption) ?_
          rotate_left 1
          · intro w hSw; (try dsimp only at hSw); go_simp; try with_reducible rfl
          (try simp only [Act.put, List.setIfInBounds_toArray, List.set_cons_zero, List.set_cons_succ])
          refine wpAnyH_take (i := 4) (oi := ({ dst := some 89, op := Op.move (Operand.tmp 5), type := 25, pos := "law.go:93", after := #[], guard := none } : Oper)) (v := ?_) rfl (by kernel_rfl) (by kernel_rfl) (by kernel_rfl) (fun _ _ _ h => h) (Or.inl ⟨by rfl, ?_⟩) (by assumption) ?_
          rotate_left 1
          · intro w hSw; (try dsimp only at hSw); go_simp; try with_reducible rfl
          (try simp only [Act.put, List.setIfInBounds_toArray, List.set_cons_zero, List.set_cons_succ])
          refine wpAnyH_take (i := 6) (oi := ({ dst := some 91, op := Op.move (Operand.tmp 9), type := 3, pos := "law.go:93", after := #[], guard := none } : Oper)) (v := ?_) rfl (by kernel_rfl) (by kernel_rfl) (by kernel_rfl) (fun _ _ _ h => h) (Or.inl ⟨by rfl, ?_⟩) (by assumption) ?_
          rotate_left 1
          · intro w hSw; (try dsimp only at hSw); go_simp; try with_reducible rfl
          (try simp only [Act.put, List.setIfInBounds_toArray, List.set_cons_zero, List.set_cons_succ])
          --END
          refine wpAnyH_ready (rs := [5]) (by kernel_rfl) (by simp) ?_
          refine AllReadyH.cons (o := _) rfl (fun K hK => ?_) AllReadyH.nil
          go_simp
          refine CAI.out.mono ?_
          rintro e w8 ⟨R8, c8, rfl, ho8, hb8⟩
          obtain ⟨a8, z', e8, hz', hzb', y0', y1'⟩ := (BdsAt.of_own ho8).2 i hlt
          subst e8
          obtain rfl : z = z' := by have h := HZ.out.symm.trans hz'; injection h
          have HB8 := Lib.hid (HBD.out.trans (hb8.mono HBD.out.size))
          have k0 := (hb8.cell (World.block_lt_of_cell? _ _ z0)).trans z0
          have k1 := (hb8.cell (World.block_lt_of_cell? _ _ z1)).trans z1
          clear hb8 ho8 hz'
          refine hK.out _ _ ⟨k0, k1⟩ (fun hHeld => ?_)
          clear hK K
          (try simp only [Act.put, List.setIfInBounds_toArray, List.set_cons_zero, List.set_cons_succ])
          --TAKES narthex/narthexlaw34.ScopeHides:14 7
          refine wpAnyH_take (i := 7) (oi := ({ dst := some 92, op := Op.indexAddr 32 (Operand.tmp 90) (Operand.tmp 91), type := 0, pos := "law.go:93", after := #[{ on := 5, ground := Ground.data }, { on := 6, ground := Ground.data }], guard := none } : Oper)) (v := ?_) rfl (by kernel_rfl) (by kernel_rfl) (by kernel_rfl) (fun _ _ _ h => h) (Or.inl ⟨by rfl, ?_⟩) (by assumption) ?_
          rotate_left 1
          · intro w hSw; (try dsimp only at hSw); go_simp; try with_reducible rfl
          (try simp only [Act.put, List.setIfInBounds_toArray, List.set_cons_zero, List.set_cons_succ])
          --END
          refine wpAnyH_ready (rs := [8]) (by kernel_rfl) (by simp) ?_
          refine AllReadyH.cons (o := _) rfl (fun K hK => ?_) AllReadyH.nil
          go_simp
          refine hK.out _ _ ⟨k0, k1⟩ (fun hHeld => ?_)
          clear hK K
          (try simp only [Act.put, List.setIfInBounds_toArray, List.set_cons_zero, List.set_cons_succ])
          refine wpAnyH_ready (rs := [9]) (by kernel_rfl) (by simp) ?_
          refine AllReadyH.cons (o := _) rfl (fun K hK => ?_) AllReadyH.nil
          go_simp
          refine hK.out _ _ ⟨k0, k1⟩ (fun hHeld => ?_)
          clear hK K
          (try simp only [Act.put, List.setIfInBounds_toArray, List.set_cons_zero, List.set_cons_succ])
          refine wpAnyH_done (by kernel_rfl) ?_ _
          clear hHeld
          go_wp2
          go_roundw
          case rel => exact ⟨i + 1, by omega, by go_num, HB8⟩
          case measure => simp [intOf]; omega
        · obtain rfl : i = al.length := by omega
          have b1 : ¬ (al.length : Int) < (al.length : Int) := by omega
          obtain ⟨v0, v1⟩ := HX.out _ HBW7.out
          obtain ⟨W9, hW9, hb9, hh9, -⟩ := frBox wr #[.string p, .string s] 38
          have CGV := Lib.hid (give_any (some ⟨wr.heap.size, 0, none⟩) 1 [⟨p, s⟩] W9 (lit_bds hh9) (by show 1 ≤ _; decide))
          have HB9 := Lib.hid (HBW7.out.trans (hb9.mono HBW7.out.size))
          clear hb9 hh9
          go_wp2_with fail
          refine CGV.out.mono ?_
          rintro e w10 ⟨R10, c10, rfl, -, -, hb10⟩
          have HB10 := Lib.hid (HB9.out.trans (hb10.mono HB9.out.size))
          clear hb10 CGV hW9
          go_wp2_with fail
          refine (pushS_nil _ w10).mono ?_
          rintro e w11 ⟨rfl, rfl⟩
          go_wp2_with fail
          refine (find_nil _ w10).mono ?_
          rintro e w11 ⟨rfl, rfl⟩
          go_wp2_with fail
          refine (find_nil _ w10).mono ?_
          rintro e w11 ⟨rfl, rfl⟩
          go_wp2_with fail
          refine (find_nil _ w10).mono ?_
          rintro e w11 ⟨rfl, rfl⟩
          rw [show ansF ⟨#[]⟩ ⟨#[120, 109, 108]⟩ = (xmlU, true) from by kernel_rfl, show ansF ⟨#[]⟩ ⟨#[]⟩ = (⟨#[]⟩, true) from by kernel_rfl, show ansF ⟨#[]⟩ ⟨#[112]⟩ = (⟨#[]⟩, false) from by kernel_rfl]
          unfold xmlU
          go_wp2_with fail
          refine (popS_nil w10).mono ?_
          rintro e w11 ⟨rfl, rfl⟩
          go_wp2_with fail
          refine (lenS_nil w10).mono ?_
          rintro e w11 ⟨rfl, rfl⟩
          go_wp2_with fail
          refine (all_nil w10).mono ?_
          rintro e w11 ⟨rfl, rfl⟩
          have CL := Lib.hid (live34_any w10)
          go_wp2_with fail
          refine CL.out.mono ?_
          rintro e w12 ⟨rfl, hB12⟩
          go_wp2
          go_ret
          exact ⟨rfl, HBW.out.trans ((HB10.out.trans (hB12.mono HB10.out.size)).mono HBW.out.size)⟩
end Go.Proofs.Ytbamcpnmabpacaa
