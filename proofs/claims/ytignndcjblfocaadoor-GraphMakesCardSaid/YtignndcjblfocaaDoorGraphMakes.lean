/- The law GraphMakes, walked. Conditions: the tables of chars and of utf hold what the text gives them; texts within the reach. -/
import Derived.Test.YtignndcjblfocaaDoorGraphLive
import Derived.Test.YtignndcjblfocaaDoorGraphROf
import Derived.Test.YtignndcjblfocaaDoorEntMuch
namespace Go.Proofs.YtignndcjblfocaaDoor
set_option linter.unusedVariables false
set_option linter.unusedSimpArgs false
open Go.RowKit Go.Proofs.YtignndcjblfocaaDoor.GraphPlain
theorem intG_ok {G : Gr} (h : okG G) {nn : Nat} (hn : G.length = nn) : rightN nn (intG G) = true := by
  unfold rightN
  rw [show decide ((intG G).length = nn) = true by rw [decide_eq_true]; simp [intG, hn], Bool.and_true, List.all_eq_true]
  intro r hr
  obtain ⟨i, hi, rfl⟩ := List.getElem_of_mem hr
  have hr2 := intG_at (List.getElem?_eq_getElem hi)
  rw [hr2.1]
  have : ((row G i).map Int.ofNat).any (oddN nn) = false := by
    rw [List.any_eq_false]
    intro x hx
    obtain ⟨j, hj, rfl⟩ := List.mem_map.1 hx
    have := h i j hj
    unfold oddN
    simp; omega
  rw [this]; rfl
theorem entG_few {l : List Ent} (h : ∀ e ∈ l, e.tx.size ≤ 1500) : ∀ r ∈ intG (entG l), r.length ≤ 1500 := by
  intro r hr
  unfold intG entG at hr
  rw [List.map_map] at hr
  obtain ⟨x, hx, rfl⟩ := List.mem_map.1 hr
  have h1 := h x (innerN_mem hx)
  have h2 := toN_len ((innerN l).map Ent.na) (outN true (namesOf x.tx))
  have h3 := outN_few x.tx
  show (List.map Int.ofNat (toN _ _)).length ≤ _
  rw [List.length_map]
  omega
theorem quietG {P : Program} {f : FuncId} {args : Array Value} {w : World} {a n : Nat} {v : Bool} (h : Calls P f args (w.drewN (a + n)) (RetD v (w.drewN (a + n)))) :
    Calls P f args (w.drewN (a + n)) fun e w'' => e = .returned (.bool v) ∧ ∃ m, w'' = w.drewN (a + m) :=
  h.mono fun e w' ⟨h1, d, h2⟩ => ⟨h1, n + d, by rw [h2]; simp [Nat.add_assoc]⟩
set_option maxRecDepth 100000 in
set_option maxHeartbeats 8000000 in
theorem graphMakes_any (A : Option Addr) (n c : Nat) (l : List Ent) (w : World) (hl : EntsAt w A n l) (hs : ∀ e ∈ l, e.tx.size ≤ 140737488351232) (hs2 : ∀ e ∈ l, e.na.size ≤ maxLen) (hn : n ≤ 9223372036854775807) (hf : FormsAt w) (ht : Tabs w) :
    Calls Tryd.prog 3 #[.slice A n c] w fun e w' => e = .returned (.bool true) ∧ Below w.heap.size w w' := by
  have C := rmuch_any A n c l w hl hs hn
  cases hm : muchN n l with
  | true =>
    rw [hm] at C
    have C := Lib.hid C
    have LV := Lib.hid (live19_any w hf ht)
    clear hl hs hs2 hf ht hm
    go_enter Tryd.func3, Tryd.ntmps3
    go_wp2_with fail
    refine C.out.mono ?_
    rintro e w1 ⟨rfl, rfl⟩
    go_wp2_with fail
    refine LV.out.mono ?_
    rintro e w2 ⟨rfl, hB⟩
    have HB := Lib.hid hB
    clear hB
    go_wp2
    go_ret
    exact ⟨rfl, HB.out⟩
  | false =>
    rw [hm] at C
    have C := Lib.hid C
    obtain ⟨hn24, hfew⟩ := muchN_no hl.1 hm
    have G1 := Lib.hid (of_any A n c l w hl (by omega) (fun e he => ⟨hs2 e he, Nat.le_trans (hfew e he) (by omega)⟩) hf ht)
    have HL := Lib.hid hl
    have HFW := Lib.hid hfew
    have HF := Lib.hid hf
    have HT := Lib.hid ht
    have hNk : (innerN l).length ≤ n := by have := innerN_len l n; rwa [List.take_of_length_le (by rw [hl.1]; exact Nat.le_refl _)] at this
    have HLN : Hid ((entG l).length = (innerN l).length) := by show _ = _; simp [entG]
    clear hl hs hs2 hf ht hm hfew
    go_enter Tryd.func3, Tryd.ntmps3
    go_wp2_with fail
    refine C.out.mono ?_
    rintro e w1 ⟨rfl, rfl⟩
    go_wp2_with fail
    refine G1.out.mono ?_
    rintro e w2 ⟨An, cn, At, ct, rfl, hts, hgr, hB2⟩
    have HTS := Lib.hid hts
    have HGR := Lib.hid hgr
    have HB2 := Lib.hid hB2
    have G2 := Lib.hid (rof_any A n c l w2 (HL.out.below hB2) (by omega) (fun e he => Nat.le_trans (HFW.out e he) (by omega)))
    clear hts hgr hB2 G1
    unfold grV
    rw [List.length_map] at HTS HGR ⊢
    go_wp2_with fail
    refine G2.out.mono ?_
    rintro e w3 ⟨An', cn', At', ct', rfl, hts, hgr, hB3⟩
    rw [List.length_map] at hts hgr ⊢
    have HTS3 := Lib.hid (HTS.out.below hB3)
    have HGR3 := Lib.hid (HGR.out.below hB3)
    have HB3 := Lib.hid (HB2.out.trans (hB3.mono HB2.out.size))
    have HTR3 := Lib.hid hts
    have HRR3 := Lib.hid hgr
    clear hts hgr hB3 G2 HTS HGR HB2
    generalize hNN : (innerN l).length = N at *
    obtain ⟨W, hW, hB, hz, c0, c1⟩ := grBox w3 An N cn At N ct 28
    obtain ⟨W2, hW2, hB2, hz2, d0, d1⟩ := grBox W An' N cn' At' N ct' 30
    rw [hz] at d0 d1
    have c0' := (hB2.cell (p := ⟨w3.heap.size, 0, none⟩) (by show w3.heap.size < _; omega)).trans c0
    have c1' := (hB2.cell (p := ⟨w3.heap.size, 1, none⟩) (by show w3.heap.size < _; omega)).trans c1
    have HTS4 := Lib.hid ((HTS3.out.below hB).below hB2)
    have HGR4 := Lib.hid ((HGR3.out.below hB).below hB2)
    have HTR4 := Lib.hid ((HTR3.out.below hB).below hB2)
    have HRR4 := Lib.hid ((HRR3.out.below hB).below hB2)
    have HB4 := Lib.hid ((HB3.out.trans (hB.mono HB3.out.size)).trans (hB2.mono (by have := HB3.out.size; omega)))
    clear hB hB2 c0 c1 HTS3 HGR3 HTR3 HRR3 HB3
    have C1 := rtexts_any An N cn ((innerN l).map Ent.na) An' N cn' ((innerN l).map Ent.na) W2 HTS4.out HTR4.out (by omega)
    rw [decide_eq_true rfl] at C1
    have C1 := Lib.hid C1
    unfold grV
    go_wp2_with fail
    refine C1.out.mono ?_
    rintro e w5 ⟨rfl, hB⟩
    have HB5 : Hid (Below W2.heap.size W2 w5) := by obtain ⟨d, rfl⟩ := hB; exact below_drawn _ _ d
    have c0'' := (HB5.out.cell (p := ⟨w3.heap.size, 0, none⟩) (by show w3.heap.size < _; omega)).trans c0'
    have c1'' := (HB5.out.cell (p := ⟨w3.heap.size, 1, none⟩) (by show w3.heap.size < _; omega)).trans c1'
    have d1' := (HB5.out.cell (p := ⟨w3.heap.size + 1, 1, none⟩) (by show w3.heap.size + 1 < _; omega)).trans d1
    have HBW := Lib.hid (HB4.out.trans (HB5.out.mono HB4.out.size))
    have HFE := Lib.hid (entG_few HFW.out)
    have HGR5 := Lib.hid (HGR4.out.below HB5.out)
    have HRR5 := Lib.hid (HRR4.out.below HB5.out)
    have hz5 := HB5.out.size
    have C2 := right_any An N cn At N ct _ w5 HGR5.out (fun r hr => Nat.le_trans (HFE.out r hr) (by omega)) (by omega)
    rw [intG_ok (entG_ok l) HLN.out] at C2
    have C2 := Lib.hid C2
    clear hB C1 c0' c1' d0 d1 HTS4 HGR4 HTR4 HRR4 HB4 HB5
    unfold grV at C2
    go_wp2_with fail
    refine C2.out.mono ?_
    rintro e w6 ⟨rfl, hB⟩
    have d2 := (hB.cell (p := ⟨w3.heap.size + 1, 1, none⟩) (by show w3.heap.size + 1 < _; omega)).trans d1'
    have c2 := (hB.cell (p := ⟨w3.heap.size, 1, none⟩) (by show w3.heap.size < _; omega)).trans c1''
    have HB6 := Lib.hid (HBW.out.trans (hB.mono HBW.out.size))
    have HGR6 := Lib.hid (HGR5.out.below hB)
    have HRR6 := Lib.hid (HRR5.out.below hB)
    clear hB C2 c0'' c1'' d1' HBW HGR5 HRR5
    go_wp2_with fail
    go_loopg [5] N (fun g v5 wr => ∃ i d : Nat, g + i = N ∧ v5 = .int .i64 i ∧ wr = w6.drewN d)
    case atStart => exact ⟨0, 0, rfl, rfl, rfl⟩
    case round =>
      obtain ⟨i, d, hgi, rfl, rfl⟩ := hrel
      by_cases hli : i < N
      · have b0 : (0 : Int) ≤ (i : Int) := by omega
        have b1 : (i : Int) < (N : Int) := by omega
        obtain ⟨a1, B1, r1, q1, ha1, hx1, hab1, g1, gi1⟩ := HGR6.out.2 i hli
        obtain ⟨a2, B2, r2, q2, ha2, hx2, hab2, g2, gi2⟩ := HRR6.out.2 i hli
        subst ha1 ha2
        obtain rfl : r1 = r2 := by rw [hx1] at hx2; exact Option.some.inj hx2
        have hr1 := HFE.out r1 (List.mem_of_getElem? hx1)
        have HI1 := Lib.hid gi1
        have HI2 := Lib.hid gi2
        have CQ : Hid (∀ m, Calls Tryd.prog 13 #[.slice B1 r1.length q1, .slice B2 r1.length q2] (w6.drewN m) (RetD true (w6.drewN m))) := fun m => by
          have := ints_any B1 r1.length q1 r1 B2 r1.length q2 r1 (w6.drewN m) (HI1.out.below (below_drawn _ _ _)) (HI2.out.below (below_drawn _ _ _)) (by omega)
          rwa [decide_eq_true rfl] at this
        clear hx1 hx2 gi1 gi2
        go_wp2_with fail
        go_quiet (first | (go_at_call 13; exact quietG (CQ.out _)))
        go_wp2
        go_roundg (gk - 1)
        case measure => omega
        case rel => exact ⟨i + 1, _, by omega, by go_num, rfl⟩
      · obtain rfl : i = N := by omega
        have HBd := Lib.hid (HB6.out.trans (below_drawn _ w6 d))
        have LV := Lib.hid (live19_any (w6.drewN d) (HF.out.below HBd.out HF.out.size) (HT.out.below HBd.out HT.out.size))
        go_wp2_with fail
        refine LV.out.mono ?_
        rintro e w9 ⟨rfl, hB⟩
        have HB9 := Lib.hid (HBd.out.trans (hB.mono HBd.out.size))
        clear hB
        go_wp2
        go_ret
        exact ⟨rfl, HB9.out⟩
end Go.Proofs.YtignndcjblfocaaDoor
