/- The contract of oracle.Put: the answers that count. Conditions: at most 2^20 answers, each of at most 2^20 bytes; internal/bytealg.MaxLen holds an int. -/
import Derived.Test.YtkneafpmgbgalaaGreatDoorAnsP
import Derived.Test.YtkneafpmgbgalaaGreatDoorOrCopy
import Derived.Test.YtkneafpmgbgalaaGreatDoorMapT
import Derived.Test.YtkneafpmgbgalaaGreatDoorUriNormsLaw
import Derived.Test.YtkneafpmgbgalaaGreatDoorAllow
import Derived.Maps.AppendAt
namespace Go.Proofs.YtkneafpmgbgalaaGreatDoor
open Go.RowKit Go.Maps Go.Proofs.YtkneafpmgbgalaaGreatDoor.UriPlain
set_option linter.unusedVariables false
set_option linter.unusedSimpArgs false
theorem Tryz.infoAns : (Tryz.prog.info? 51).map (fun i => (i.zero, i.size, i.bytes)) = some (some (.agg #[.string ⟨#[]⟩, .bool false, .slice none 0 0]), 3, 48) := by kernel_rfl
def TellAns (ps : List AnP) (w : World) (e : Ending) (w' : World) : Prop := ∃ A c ys, e = .returned (.slice A ys.length c) ∧ ys.map An.pl = ps ∧ ys.length ≤ c ∧ c ≤ 9223372036854775807 ∧ AnRow w' w.heap.size (.slice A ys.length c) ys ∧ Below w.heap.size w w'
theorem anBox (w : World) (x : An) (t : TypeId) : ∃ W, w.alloc (.cells #[.string x.id, .bool x.ok, .slice x.D x.n x.c] t) = W ∧ Below w.heap.size w W ∧ W.heap[w.heap.size]? = some (.cells #[.string x.id, .bool x.ok, .slice x.D x.n x.c] t (0, 0)) ∧ w.heap.size < W.heap.size ∧
    W.cell? ⟨w.heap.size, 0, none⟩ = some (.string x.id) ∧ W.cell? ⟨w.heap.size, 1, none⟩ = some (.bool x.ok) ∧ W.cell? ⟨w.heap.size, 2, none⟩ = some (.slice x.D x.n x.c) :=
  ⟨_, rfl, (Below.refl _ w).alloc (Nat.le_refl _) _, heap_alloc_new w _, by simp, by simp, by simp, by simp⟩
theorem AnRow.below {w w' : World} {base : Nat} {v : Value} {l : List An} (h : AnRow w base v l) (hb : Below w.heap.size w w') : AnRow w' base v l :=
  ⟨by
    obtain ⟨h1, h2⟩ := h.1
    refine ⟨h1, ?_⟩
    rcases h2 with h2 | ⟨g, cap, cur, hv, hg, hh, r⟩
    · exact .inl h2
    · exact .inr ⟨g, cap, cur, hv, hg, (hb.block g (Array.getElem?_eq_some_iff.1 hh).1).trans hh, r⟩, fun x hx => (h.2 x hx).below hb⟩
theorem three_newsA (a : ByteArray) (d : Bool) (A : Option Addr) (n c : Nat) : ∀ u ∈ [Value.string a, .bool d, .slice A n c], u.oneCell' = true := by
  intro u hu; simp at hu; rcases hu with rfl | rfl | rfl <;> rfl
theorem rowCell3A (w : World) (x y z : Value) (t : TypeId) : ∀ j u, [x, y, z][j]? = some u → (w.alloc (.cells #[x, y, z] t)).cell? ((⟨w.heap.size, 0, none⟩ : Addr).add j) = some u := by
  intro j u hj
  rw [addGA, Lib.cell_of_heap (heap_alloc_new w _)]
  simpa using hj
theorem AnRow.shape {w : World} {base : Nat} {v : Value} {l : List An} (h : AnRow w base v l) : ∃ A c, v = .slice A l.length c ∧ l.length ≤ c ∧ c ≤ 9223372036854775807 := by
  rcases h.1.2 with ⟨h1, h2⟩ | ⟨g, cap, cur, rfl, _, _, h3, h4, _⟩
  · exact ⟨none, 0, by rw [h1, h2], by omega, by omega⟩
  · exact ⟨_, _, rfl, h3, by unfold maxLen at h4; exact h4⟩
theorem grownBy_setO (W : World) (p : Addr) (v : Value) : W.grownBy (W.setCell p v) (some p.block) :=
  ⟨rfl, rfl, rfl, by simp, fun k _ hk => Below.heap_setCell _ _ _ k (fun e => hk (by rw [e]))⟩
theorem AnRow.grown {w w' : World} {base : Nat} {v : Value} {l : List An} {row : Option Nat} (h : AnRow w base v l) (hg : w.grownBy w' row) (hv : v.ownBlock = none ∨ v.ownBlock ≠ row) (hr : ∀ r cs t, row = some r → w.heap[r]? = some (.cells cs t (0, 0)) → ¬ t = 5) : AnRow w' base v l :=
  ⟨h.1.kept hg hv, fun x hx => (h.2 x hx).grown hg hr⟩
theorem AnRow.push {w w' : World} {base : Nat} {v v' : Value} {l : List An} {y : An} (h : AnRow w base v l) (hy : FreshD w base y) (hown : w'.ownsRow base 51 3 v' (l.length + 1) (anCells l ++ [.string y.id, .bool y.ok, .slice y.D y.n y.c])) (hg : w.grownBy w' v.ownBlock) : AnRow w' base v' (l ++ [y]) := by
  have hr : ∀ r cs t, v.ownBlock = some r → w.heap[r]? = some (.cells cs t (0, 0)) → ¬ t = 5 := by
    intro r cs t hv hh
    rcases h.1.2 with ⟨rfl, _⟩ | ⟨g, cap, cur, rfl, _, hh2, _⟩
    · cases hv
    · obtain rfl : g = r := by simpa [Value.ownBlock] using hv
      rw [hh] at hh2
      cases hh2
      decide
  refine ⟨?_, fun x hx => ?_⟩
  · rw [List.length_append, anCells_append]
    exact hown
  · rcases List.mem_append.1 hx with hx | hx
    · exact (h.2 x hx).grown hg hr
    · simp at hx; subst hx; exact hy.grown hg hr
theorem mapM_fresh {w : World} {P : Program} {k : TypeId} {R : Value → Option (DataW Unit × List MemPlace)} {b m : Nat} {D : DataW Unit} (h : w.ownsMap P k R b m D) : ∀ r cs t, some b = some r → w.heap[r]? = some (.cells cs t (0, 0)) → ¬ t = 5 := by
  intro r cs t e hh
  cases e
  exact absurd rfl (mapM_not_cells h hh)
theorem stepA_err {out : List AnP} {a : AnP} (h : ¬ errA a.id = 0) : stepA out a = out := by unfold stepA; rw [if_neg (fun h2 => h h2.1)]
theorem stepA_there {out : List AnP} {a : AnP} {b : AnP} (hb : b ∈ out) (h : b.id = nrmA a.id) : stepA out a = out := by unfold stepA; rw [if_neg (fun h2 => h2.2 b hb h)]
theorem stepA_new {out : List AnP} {a : AnP} (h : errA a.id = 0) (h2 : ∀ b ∈ out, b.id ≠ nrmA a.id) : stepA out a = out ++ [canA a] := by unfold stepA; rw [if_pos ⟨h, h2⟩]
theorem nrmA_size (s : ByteArray) : (nrmA s).size ≤ 12400 := by unfold nrmA; rw [show (bS (normU s.data.toList)).size = (normU s.data.toList).length from by show (normU s.data.toList).toArray.size = _; simp]; exact norm_size _
set_option maxRecDepth 100000 in
set_option maxHeartbeats 8000000 in
theorem put_any (A : Option Addr) (n c : Nat) (l : List An) (w : World) (m : Int) (hl : AnsAt w A n l) (hn : n ≤ 1048576) (hsz : ∀ x ∈ l, x.n ≤ 1048576) (hm : w.cell? ⟨0, 0, none⟩ = some (.int .i64 m)) :
    Calls Tryz.prog 24 #[.slice A n c] w (TellAns (putA (l.map An.pl)) w) := by
  obtain ⟨i0, hi0, hz0, hz1, hz2⟩ := info_partsO Tryz.infoAns
  obtain rfl := hl.1
  have hmm := @run_makeMap Tryz.prog
  obtain ⟨W1, hW1⟩ : ∃ W1, W1 = w.alloc (.map #[] 0) := ⟨_, rfl⟩
  have hB1 : Below w.heap.size w W1 := by rw [hW1]; exact (Below.refl _ _).alloc (Nat.le_refl _) _
  have hmap1 : W1.ownsMap Tryz.prog 9 (plainElem (H := Unit) Tryz.prog 3) w.heap.size 0 (.map []) := by rw [hW1]; exact World.ownsMap_made (H := Unit) w Tryz.prog 9 _
  have hlt0 : 0 < w.heap.size := World.block_lt_of_cell? _ _ hm
  have HW1 := Lib.hid hW1
  have L := Lib.hid hl
  have HSZ := Lib.hid hsz
  have HB1 := Lib.hid hB1
  have HM1 := Lib.hid hmap1
  have HM := Lib.hid hm
  have HL0 := Lib.hid hlt0
  clear hl hsz hW1 hB1 hmap1 hm hlt0
  go_enter Tryz.func24, Tryz.ntmps24
  go_upto_region 3 with (fail)
  rw [← HW1.out]
  clear hmm
  go_wp2
  go_loopw [3, 12] (fun o i wr => ∃ (k : Nat) (v : Value) (ys : List An) (D : DataW Unit), v = o ∧ k ≤ l.length ∧ i = .int .i64 k ∧ Hid (ys.map An.pl = putA ((l.take k).map An.pl)) ∧ Hid (AnRow wr w.heap.size v ys) ∧ Hid (wr.ownsMap Tryz.prog 9 (plainElem (H := Unit) Tryz.prog 3) w.heap.size k D) ∧ Hid (KeyM D (ys.map (·.id))) ∧ Hid (Below w.heap.size w wr)) (fun _ i _ => l.length - (intOf i).toNat)
  case atStart => exact ⟨0, _, [], _, rfl, by omega, rfl, rfl, ⟨World.ownsRow_nil _ _ _ _, by simp⟩, HM1, KeyM_nil, HB1⟩
  case round =>
    obtain ⟨k, v, ys, D, rfl, hk', rfl, HY, HO, HMP, HK, HB⟩ := hrel
    by_cases hlt : k < l.length
    · obtain ⟨a, x, rfl, hx, hat, hok⟩ := L.out.2 k hlt
      have b0 : (0 : Int) ≤ (k : Int) := by omega
      have b1 : (k : Int) < (l.length : Int) := by omega
      obtain ⟨-, g0, g1, g2⟩ := hat.below HB.out hat.1
      obtain ⟨W, hW, hbW, hhW, hltW, c0, c1, c2⟩ := anBox wr x 51
      have HBW := Lib.hid (HB.out.trans (hbW.mono HB.out.size))
      have NM := norm_free x.id W m ((HBW.out.cell (p := ⟨0, 0, none⟩) HL0.out).trans HM.out)
      have hst : putA ((l.take (k + 1)).map An.pl) = stepA (ys.map An.pl) x.pl := by rw [List.take_add_one, hx, List.map_append, HY.out]; exact putA_snoc _ _
      have hids : (ys.map An.pl).map AnP.id = ys.map An.id := by rw [List.map_map]; rfl
      have hyl : ys.length ≤ k := by
        have h := congrArg List.length HY.out
        have h2 := putA_len ((l.take k).map An.pl)
        rw [List.length_map] at h
        rw [List.length_map, List.length_take] at h2
        omega
      have hxn := HSZ.out x (List.mem_of_getElem? hx)
      have HOW := Lib.hid (HO.out.below hbW)
      have HMW := Lib.hid (mapM_below HMP.out hbW)
      have OK := Lib.hid hok
      have hlw := HMP.out.lt
      have hvb := fun g hg => (HO.out.1.lt g hg).2
      have HVB := Lib.hid hvb
      have HST := Lib.hid hst
      have HID := Lib.hid hids
      have HHW := Lib.hid hhW
      have NM := Lib.hid NM
      clear hx hat hok hbW hst hids hhW HO HMP HY hvb
      go_wp2_with fail
      refine NM.out.mono ?_
      rintro e w3 ⟨rfl, hB3⟩
      have HB3 := Lib.hid (HBW.out.trans (hB3.mono HBW.out.size))
      have HO3 := Lib.hid (HOW.out.below hB3)
      have HM3 := Lib.hid (mapM_below HMW.out hB3)
      have hh3 := (hB3.block wr.heap.size hltW).trans HHW.out
      have hlt3 := Nat.lt_of_lt_of_le hltW hB3.size
      have hne : ∀ ys : List An, errA x.id = 0 → cntM (ys.map An.id) (nrmA x.id) = 0 → ∀ b ∈ ys.map An.pl, b.id ≠ nrmA x.id := by
        intro ys _ h b hb
        obtain ⟨y, hy, rfl⟩ := List.mem_map.1 hb
        exact cntM_zero.1 h y.id (List.mem_map.2 ⟨y, hy, rfl⟩)
      have hn1 := fun h => HST.out.trans (stepA_err (a := x.pl) h)
      have hn2 : ¬ cntM (ys.map An.id) (nrmA x.id) = 0 → putA ((l.take (k + 1)).map An.pl) = ys.map An.pl := by
        intro h
        have h2 : ∃ y ∈ ys, y.id = nrmA x.id := by
          apply Classical.byContradiction
          intro h3
          exact h (cntM_zero.2 fun z hz => by obtain ⟨y, hy, rfl⟩ := List.mem_map.1 hz; exact fun e => h3 ⟨y, hy, e⟩)
        obtain ⟨y, hy, e⟩ := h2
        exact HST.out.trans (stepA_there (a := x.pl) (List.mem_map.2 ⟨y, hy, rfl⟩) e)
      have hn3 := fun h1 h2 => HST.out.trans (stepA_new (a := x.pl) h1 (hne ys h1 h2))
      have hcan : canA x.pl = ⟨nrmA x.id, x.ok, if x.ok then x.da else []⟩ := rfl
      rw [hcan] at hn3
      have hnz := nrmA_size x.id
      have HK2 := Lib.hid (fun D' (hD : D' = D.put (.string (nrmA x.id).data.toList) (.lit (.int .i64 ((cntM (ys.map An.id) (nrmA x.id) : Int) + 1)))) => hD ▸ KeyM_put (x := nrmA x.id) HK.out HMW.out.isMap)
      have hat0 := HK.out (nrmA x.id)
      have hcl := cntM_le (ys.map An.id) (nrmA x.id)
      rw [List.length_map] at hcl
      rw [show bS (normU x.id.data.toList) = nrmA x.id from rfl, show uriE x.id.data.toList = errA x.id from rfl]
      have hpid : x.pl.id = x.id := rfl
      rw [hpid] at hn1 hn3
      generalize nrmA x.id = nm at *
      generalize errA x.id = er at *
      generalize cntM (ys.map An.id) nm = cn at *
      have hkey : keyOf Tryz.prog 9 (.string nm) = some (.string nm.data.toList) := WideMaps.keyOf_string_mk Tryz.underlying9 (by unfold maxLen; omega)
      obtain ⟨cv, hrun, hat, _⟩ := HM3.out.lookup_int lawM Tryz.underlying73 Tryz.underlying3 (zeroM _) hkey
      rw [hat0] at hat
      obtain rfl := litIntM hat
      have HN1 := Lib.hid hn1
      have HN2 := Lib.hid hn2
      have HN3 := Lib.hid hn3
      have HH3 := Lib.hid hh3
      have HKEY := Lib.hid hkey
      have HRUN := Lib.hid hrun
      clear hne hn1 hn2 hn3 hcan hat hat0 hpid hkey hrun hh3 hB3 NM HOW HMW HHW HBW HST HID c0 c1 c2 g0 g1 g2
      by_cases her : er = 0
      · subst her
        by_cases hcn : cn = 0
        · subst hcn
          have t1 : decide ((0 : Int) < ((0 : Nat) : Int)) = false := rfl
          have hrun := HRUN.out
          have hwf : (Lit.int .i64 (((0 : Nat) : Int) + 1)).wf = true := by decide
          have HYN := Lib.hid (HN3.out rfl rfl)
          have c0 : w3.cell? ⟨wr.heap.size, 0, none⟩ = some (.string x.id) := by rw [Lib.cell_of_heap HH3.out]; rfl
          go_wp2_with (at_mapUpdate; refine wpList_mapUpdate_own _ rfl _ _ _ 73 rfl 9 3 lawM Tryz.underlying73 _ w.heap.size k _ rfl HM3.out (by unfold maxLen; omega) _ _ _ rfl rfl HKEY.out _ [] (plainElem_int Tryz.underlying3 hwf) ?_)
          intro w4 hown1 hgrow1
          have hh4 := (hgrow1.block wr.heap.size hlt3 (by intro e; injection e with e; omega)).trans HH3.out
          have hO4 := HO3.out.grown hgrow1 (Or.inr (mapM_not_row HM3.out HO3.out.1).symm) (mapM_fresh HM3.out)
          have hB4 := HB3.out.grown hgrow1 HB3.out.size (fun g h => by injection h with h; omega)
          have HH4 := Lib.hid hh4
          have HO4 := Lib.hid hO4
          have HM4 := Lib.hid hown1
          have HB4 := Lib.hid hB4
          have c0 : w4.cell? ⟨wr.heap.size, 0, none⟩ = some (.string x.id) := by rw [Lib.cell_of_heap HH4.out]; rfl
          have c1 : w4.cell? ⟨wr.heap.size, 1, none⟩ = some (.bool x.ok) := by rw [Lib.cell_of_heap HH4.out]; rfl
          have c2 : w4.cell? ⟨wr.heap.size, 2, none⟩ = some (.slice x.D x.n x.c) := by rw [Lib.cell_of_heap HH4.out]; rfl
          have f0 := Lib.frozen_of_heap HH4.out 0
          have f2 := Lib.frozen_of_heap HH4.out 2
          have hwsz : w.heap.size ≤ wr.heap.size := HB.out.size
          have hvn : v.ownBlock = none ∨ v.ownBlock ≠ some wr.heap.size := by
            cases hv : v.ownBlock with
            | none => exact .inl rfl
            | some g => exact .inr (fun e => by injection e with e; have := HVB.out g hv; omega)
          have hfr : ∀ (W : World), W.heap[wr.heap.size]? = some (.cells #[.string x.id, .bool x.ok, .slice x.D x.n x.c] 51 (0, 0)) → ∀ r cs t, some wr.heap.size = some r → W.heap[r]? = some (.cells cs t (0, 0)) → ¬ t = 5 := by
            intro W hW r cs t e hh
            cases e
            rw [hh] at hW
            cases hW
            decide
          clear hh4 hO4 hown1 hB4 hgrow1 HO3 HM3 HB3 HH3 hrun
          cases hok : x.ok with
          | true =>
            rw [hok] at c1 HYN
            obtain ⟨w5, hw5⟩ : ∃ w5, w5 = w4.setCell ⟨wr.heap.size, 0, none⟩ (.string nm) := ⟨_, rfl⟩
            have hg5 : w4.grownBy w5 (some wr.heap.size) := by rw [hw5]; exact grownBy_setO _ ⟨wr.heap.size, 0, none⟩ _
            have hB5 : Below w.heap.size w w5 := by rw [hw5]; exact HB4.out.setCell hwsz _
            have hO5 := HO4.out.grown hg5 hvn (hfr w4 HH4.out)
            have hM5 := HM4.out.kept hg5 (by intro e; injection e with e; omega)
            have HW5 := Lib.hid hw5
            have HYN := HYN
            have OK5 : AnOk w5 ⟨nm, true, x.D, x.n, x.c, x.da⟩ := (OK.out.below hB5)
            have CP := copied_any (⟨nm, true, x.D, x.n, x.c, x.da⟩ : An) w5 OK5 hxn
            have HB5 := Lib.hid hB5
            have HO5 := Lib.hid hO5
            have HM5 := Lib.hid hM5
            have CP := Lib.hid CP
            clear OK5 hB5 hO5 hM5 hw5
            go_wp2_with fail
            rw [← HW5.out]
            refine CP.out.mono ?_
            rintro e w6 ⟨y, rfl, hyp, hfr, hB6⟩
            have hw56 := hB6.size
            have HO6 := Lib.hid (HO5.out.below hB6)
            have HM6 := Lib.hid (mapM_below HM5.out hB6)
            have HB6 := Lib.hid (HB5.out.trans (hB6.mono HB5.out.size))
            have hz6 := HB6.out.size
            have HF6 := Lib.hid (hfr.base HB5.out.size)
            have HYP := Lib.hid hyp
            clear hyp hfr hB6 CP
            go_wp2_with (at_builtin; refine wpList_append_own_at _ rfl (.tmp 40) (.tmp 43) 25 rfl w.heap.size 51 i0 (.agg #[.string ⟨#[]⟩, .bool false, .slice none 0 0]) 3 48 Tryz.underlying25 hi0 hz0 hz1 hz2 rfl (by decide) _ _ _ rfl (HO6.out.1.alloc _) ⟨w6.heap.size, 0, none⟩ 1 1 [.string y.id, .bool y.ok, .slice y.D y.n y.c] rfl rfl (rowCell3A _ _ _ _ _) ?k2 ?k3 ?k4 ?k5 ?_)
            case k2 => exact three_newsA _ _ _ _ _
            case k3 => unfold maxLen; omega
            case k4 => omega
            case k5 => simp; omega
            intro o' w7 hown' hgrow _ hblk
            have hal : Below w6.heap.size w6 (w6.alloc (.cells #[.string y.id, .bool y.ok, .slice y.D y.n y.c] 51)) := (Below.refl _ _).alloc (Nat.le_refl _) _
            have HO7 := Lib.hid (((HO6.out.below hal).push (HF6.out.below hal) hown' hgrow))
            have HM7 := Lib.hid ((mapM_below HM6.out hal).kept hgrow (mapM_not_row HM6.out HO6.out.1))
            have HB7 := Lib.hid ((HB6.out.alloc hz6 _).grown hgrow (by simp; omega) (fun g hg => (HO6.out.1.lt g hg).1))
            have HY7 : Hid ((ys ++ [y]).map An.pl = putA ((l.take (k + 1)).map An.pl)) := by
              show _ = _
              rw [HYN.out, List.map_append, List.map_cons, List.map_nil, HYP.out]; simp [An.pl]
            have HK7 : Hid (KeyM (D.put (.string nm.data.toList) (.lit (.int .i64 1))) ((ys ++ [y]).map (·.id))) := by
              have h := HK2.out _ rfl
              rw [List.map_append, List.map_cons, List.map_nil, show y.id = nm from congrArg AnP.id HYP.out]
              exact h
            clear hown' hgrow hblk hal HO6 HM6 HB6 HF6 HYP HO5 HM5 HB5
            go_wp2
            go_roundw
            case rel => exact ⟨k + 1, _, ys ++ [y], _, rfl, by omega, by go_num, HY7, HO7, HM7, HK7, HB7⟩
            case measure => simp [intOf]; omega
          | false =>
            rw [hok] at c1 HYN
            obtain ⟨w5, hw5⟩ : ∃ w5, w5 = (w4.setCell ⟨wr.heap.size, 2, none⟩ (.slice none 0 0)).setCell ⟨wr.heap.size, 0, none⟩ (.string nm) := ⟨_, rfl⟩
            have hg5 : w4.grownBy w5 (some wr.heap.size) := by rw [hw5]; exact (grownBy_setO _ ⟨wr.heap.size, 2, none⟩ _).trans (grownBy_setO _ ⟨wr.heap.size, 0, none⟩ _)
            have hB5 : Below w.heap.size w w5 := by rw [hw5]; exact (HB4.out.setCell hwsz _).setCell hwsz _
            have hO5 := HO4.out.grown hg5 hvn (hfr w4 HH4.out)
            have hM5 := HM4.out.kept hg5 (by intro e; injection e with e; omega)
            have HW5 := Lib.hid hw5
            have HYN := HYN
            have OK5 : AnOk w5 ⟨nm, false, none, 0, 0, []⟩ := ⟨⟨rfl, fun k hk => absurd hk (by simp)⟩, Nat.le_refl _, by simp⟩
            have CP := copied_any (⟨nm, false, none, 0, 0, []⟩ : An) w5 OK5 (Nat.zero_le _)
            have HB5 := Lib.hid hB5
            have HO5 := Lib.hid hO5
            have HM5 := Lib.hid hM5
            have CP := Lib.hid CP
            clear OK5 hB5 hO5 hM5 hw5
            go_wp2_with fail
            rw [← HW5.out]
            refine CP.out.mono ?_
            rintro e w6 ⟨y, rfl, hyp, hfr, hB6⟩
            have hw56 := hB6.size
            have HO6 := Lib.hid (HO5.out.below hB6)
            have HM6 := Lib.hid (mapM_below HM5.out hB6)
            have HB6 := Lib.hid (HB5.out.trans (hB6.mono HB5.out.size))
            have hz6 := HB6.out.size
            have HF6 := Lib.hid (hfr.base HB5.out.size)
            have HYP := Lib.hid hyp
            clear hyp hfr hB6 CP
            go_wp2_with (at_builtin; refine wpList_append_own_at _ rfl (.tmp 40) (.tmp 43) 25 rfl w.heap.size 51 i0 (.agg #[.string ⟨#[]⟩, .bool false, .slice none 0 0]) 3 48 Tryz.underlying25 hi0 hz0 hz1 hz2 rfl (by decide) _ _ _ rfl (HO6.out.1.alloc _) ⟨w6.heap.size, 0, none⟩ 1 1 [.string y.id, .bool y.ok, .slice y.D y.n y.c] rfl rfl (rowCell3A _ _ _ _ _) ?k2 ?k3 ?k4 ?k5 ?_)
            case k2 => exact three_newsA _ _ _ _ _
            case k3 => unfold maxLen; omega
            case k4 => omega
            case k5 => simp; omega
            intro o' w7 hown' hgrow _ hblk
            have hal : Below w6.heap.size w6 (w6.alloc (.cells #[.string y.id, .bool y.ok, .slice y.D y.n y.c] 51)) := (Below.refl _ _).alloc (Nat.le_refl _) _
            have HO7 := Lib.hid (((HO6.out.below hal).push (HF6.out.below hal) hown' hgrow))
            have HM7 := Lib.hid ((mapM_below HM6.out hal).kept hgrow (mapM_not_row HM6.out HO6.out.1))
            have HB7 := Lib.hid ((HB6.out.alloc hz6 _).grown hgrow (by simp; omega) (fun g hg => (HO6.out.1.lt g hg).1))
            have HY7 : Hid ((ys ++ [y]).map An.pl = putA ((l.take (k + 1)).map An.pl)) := by
              show _ = _
              rw [HYN.out, List.map_append, List.map_cons, List.map_nil, HYP.out]; simp [An.pl]
            have HK7 : Hid (KeyM (D.put (.string nm.data.toList) (.lit (.int .i64 1))) ((ys ++ [y]).map (·.id))) := by
              have h := HK2.out _ rfl
              rw [List.map_append, List.map_cons, List.map_nil, show y.id = nm from congrArg AnP.id HYP.out]
              exact h
            clear hown' hgrow hblk hal HO6 HM6 HB6 HF6 HYP HO5 HM5 HB5
            go_wp2
            go_roundw
            case rel => exact ⟨k + 1, _, ys ++ [y], _, rfl, by omega, by go_num, HY7, HO7, HM7, HK7, HB7⟩
            case measure => simp [intOf]; omega
        · have hc2 : (0 : Int) < (cn : Int) := by omega
          have HYN := Lib.hid (HN2.out hcn)
          have hrun := HRUN.out
          clear hcn
          go_wp2
          go_roundw
          case rel => exact ⟨k + 1, v, ys, D, rfl, by omega, by go_num, HYN.out.symm, HO3, HM3.out.mono (Nat.le_succ _), HK, HB3⟩
          case measure => simp [intOf]; omega
      · have t1 : (er != 0) = true := by simpa using her
        have HYN := Lib.hid (HN1.out her)
        clear her HRUN
        go_wp2
        go_roundw
        case rel => exact ⟨k + 1, v, ys, D, rfl, by omega, by go_num, HYN.out.symm, HO3, HM3.out.mono (Nat.le_succ _), HK, HB3⟩
        case measure => simp [intOf]; omega
    · obtain rfl : k = l.length := by omega
      obtain ⟨A2, c2, rfl, h1, h2⟩ := HO.out.shape
      have hy := HY.out
      rw [List.take_length] at hy
      have HY2 := Lib.hid hy
      clear hy HY
      go_wp2
      go_ret
      exact ⟨A2, c2, ys, rfl, HY2.out, h1, h2, HO.out, HB.out⟩
end Go.Proofs.YtkneafpmgbgalaaGreatDoor
