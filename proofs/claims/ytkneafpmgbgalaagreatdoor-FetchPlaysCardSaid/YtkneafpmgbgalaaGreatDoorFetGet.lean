/- The contract of fetch's Get. Conditions: at most 2^20 answers, patterns, texts of the trace; each answer of at most 2^20 bytes; limits up to 2^40; internal/bytealg.MaxLen holds an int. -/
import Derived.Test.YtkneafpmgbgalaaGreatDoorFetB
import Derived.Deep.QuietTactic
import Derived.Deep.RegionHeld3
import Derived.Deep.Cut
namespace Go.Proofs.YtkneafpmgbgalaaGreatDoor
open Go.RowKit Go.Maps Go.Proofs.YtkneafpmgbgalaaGreatDoor.UriPlain
set_option linter.unusedVariables false
set_option linter.unusedSimpArgs false
set_option maxRecDepth 100000 in
set_option maxHeartbeats 8000000 in
theorem get_any (base g : Nat) (s : GM) (id : ByteArray) (w : World) (m : Int) (hG : GuardAt w base g s) (hm : w.cell? ⟨0, 0, none⟩ = some (.int .i64 m)) (h0 : 0 < base) (hp : s.p ≤ 1048576) (hS : Shorts s.L) (hyn : s.ys.length ≤ 1048576) (hyz : ∀ x ∈ s.ys, x.n ≤ 1048576) (hvz : ∀ x ∈ s.vs, x.1.n ≤ 1048576) (hts : s.ts.length ≤ 1048576) (b1 : 0 ≤ s.lf) (b2 : s.lf ≤ 1099511627776) (b3 : 0 ≤ s.rd) (b4 : s.rd ≤ 1099511627776) :
    Calls Tryz.prog 11 #[.pointer (some ⟨g, 0, none⟩), .string id] w (GetToldE base g s id w) := by
  obtain ⟨j0, hj0, hy0, hy1, hy2⟩ := info_partsO Tryz.infoStrF
  obtain ⟨mf, lf, rd, B, p, d, L, A, c, ys, v, M, nM, D, ts, vs⟩ := s
  dsimp only at hG hp hS hyn hyz hvz hts b1 b2 b3 b4
  have hpL := txt_len hG.allow
  dsimp only at hpL
  subst hpL
  have hT : TsAt w B L.length L := TsAt.of_own hG.allow
  have hgl : g < w.heap.size := (Array.getElem?_eq_some_iff.1 hG.blk).1
  have hg0 : 0 < g := Nat.lt_of_lt_of_le h0 hG.gbase
  have F := afind_any B L.length d L id w m hT hp hS hm
  obtain ⟨A5, c5, hv5, hc51, hc52⟩ := ownF_shape hG.trace
  dsimp only at hv5
  subst hv5
  have HM := Lib.hid hm
  have HYZ := Lib.hid hyz
  have HVZ := Lib.hid hvz
  obtain ⟨u0, u1, u2, u3, u4, u5, u6⟩ := guard_cell hG.blk
  have HG := Lib.hid hG
  clear hm hyz hvz hG hT hS
  cases hf : findB L id.data.toList with
  | false =>
    rw [hf] at F
    have F := Lib.hid F
    have HP := Lib.hid (getF_no (ps := ys.map An.pl) (mf := mf) (mb := lf + rd) (st := (GM.mk mf lf rd B L.length d L A c ys (.slice A5 ts.length c5) M nM D ts vs).st) hf)
    clear hf
    go_enter Tryz.func11, Tryz.ntmps11
    go_wp2_with fail
    refine F.out.mono ?_
    rintro e w1 ⟨rfl, hB1⟩
    go_wp2
    go_ret2
    exact ⟨_, none, 0, 0, [], 10, rfl, ⟨⟨rfl, fun k hk => absurd hk (by omega)⟩, fun a h => by cases h⟩, HG.out.below hB1, HP.out, rfl, rfl, rfl, rfl, KeepG.of_below hB1 _, fun k hk => .inl hk, rfl, rfl, .inl rfl, by simp, fun h => h⟩
  | true =>
    rw [hf, findT_ok hf] at F
    have hnz := nrmA_size id
    have hst0 : (GM.mk mf lf rd B L.length d L A c ys (.slice A5 ts.length c5) M nM D ts vs).st = ⟨ts, vs.map (fun x => (x.1.da, x.2)), rd⟩ := rfl
    have hP := fun (i : Nat) hi => getF_old (L := L) (ps := ys.map An.pl) (mf := mf) (mb := lf + rd) (st := ⟨ts, vs.map (fun x => (x.1.da, x.2)), rd⟩) (id := id) (i := i) hf hi
    have hQ := fun hi hm => getF_full (L := L) (ps := ys.map An.pl) (mf := mf) (mb := lf + rd) (st := ⟨ts, vs.map (fun x => (x.1.da, x.2)), rd⟩) (id := id) hf hi hm
    have hR := fun hi hm => getF_new (L := L) (ps := ys.map An.pl) (mf := mf) (mb := lf + rd) (st := ⟨ts, vs.map (fun x => (x.1.da, x.2)), rd⟩) (id := id) hf hi hm
    dsimp only at hP hQ hR
    generalize nrmA id = nm at *
    have F := Lib.hid F
    have HP := Lib.hid hP
    have HQ := Lib.hid hQ
    have HR := Lib.hid hR
    have hkey : keyOf Tryz.prog 9 (.string nm) = some (.string nm.data.toList) := WideMaps.keyOf_string_mk Tryz.underlying9 (by unfold maxLen; omega)
    have HKEY := Lib.hid hkey
    clear hf hP hQ hR hst0 hkey
    go_enter Tryz.func11, Tryz.ntmps11
    go_wp2_with fail
    refine F.out.mono ?_
    rintro e w1 ⟨rfl, hB1⟩
    have G1 := Lib.hid (HG.out.below hB1)
    have HB1 := Lib.hid hB1
    obtain ⟨v0, v1, v2, v3, v4, v5, v6⟩ := guard_cell G1.out.blk
    have hs1 := hB1.size
    obtain ⟨vv, ps2, hrun, hRv⟩ := G1.out.map.look_ok lawV Tryz.underlying56 (zeroTold _) (zd := .held zeroTV) (zp := []) rfl HKEY.out
    have hseen := G1.out.seen nm
    clear hB1 F u0 u1 u2 u3 u4 u5 u6
    dsimp only at hrun hRv hseen
    cases hi : idxT ts nm with
    | some i =>
      obtain ⟨hil, -, -⟩ := idxT_some hi
      have hvl := G1.out.vlen
      dsimp only at hvl
      have hx : vs[i]? = some vs[i] := List.getElem?_eq_getElem (by omega)
      have hxm := List.mem_of_getElem? hx
      have hfx := G1.out.fresh _ hxm
      have hsn : ∀ zd, D.atKey (.string nm.data.toList) zd = .held (tvV vs[i]) := fun zd => by rw [hseen zd, hi, Option.bind_some, hx]
      have hhas := has_true_of_atKey hsn
      rw [hsn] at hRv
      have h1 := heldV_inv hRv
      injection h1 with h1 _
      injection h1 with h1
      subst h1
      rw [hhas] at hrun
      have hpl := HP.out i hi
      have hod : (vs.map (fun x => (x.1.da, x.2))).getD i ([], 0) = (vs[i].1.da, vs[i].2) := by rw [List.getD_eq_getElem?_getD, List.getElem?_map, hx]; rfl
      rw [hod] at hpl
      have hxn := HVZ.out _ hxm
      generalize vs[i] = x at *
      unfold tvV at hrun
      obtain ⟨W, hW, hbW, hhW, hltW, k0, k1⟩ := tvBox w1 (.slice x.1.D x.1.n x.1.c) x.2 60
      have CB := Lib.hid (fun V (hb : Below W.heap.size W V) => bclone_any x.1.D x.1.n x.1.c x.1.da V (((hfx.below hbW).below hb).ok.1) hxn)
      have HPL := Lib.hid hpl
      have HBW := Lib.hid (HB1.out.trans (hbW.mono HB1.out.size))
      have GW := Lib.hid (G1.out.below hbW)
      have kd := below_drewF W.heap.size W
      have KC := Lib.hid (fun V (hb : Below W.heap.size W V) => (⟨(hb.cell (p := ⟨w1.heap.size, 0, none⟩) hltW).trans k0, (hb.cell (p := ⟨w1.heap.size, 1, none⟩) hltW).trans k1⟩ : V.cell? ⟨w1.heap.size, 0, none⟩ = some (.slice x.1.D x.1.n x.1.c) ∧ V.cell? ⟨w1.heap.size, 1, none⟩ = some (.int .i64 x.2)))
      have HX := Lib.hid kd
      have j0' := KC.out _ kd
      clear hi hx hxm hfx hsn hhas hRv hpl hod hbW hhW hltW hseen kd hvl hil
      go_wp2_with fail
      go_region_held3 (fun w' => w'.cell? ⟨w1.heap.size, 0, none⟩ = some (.slice x.1.D x.1.n x.1.c) ∧ w'.cell? ⟨w1.heap.size, 1, none⟩ = some (.int .i64 x.2))
        (first | exact j0' | exact KC.out _ HX.out)
        (first
        | (go_at_call 27
           refine (CB.out _ HX.out).mono ?_
           rintro e w9 ⟨R9, c9, rfl, hb9, hB9⟩
           have HX := Lib.hid (HX.out.trans (hB9.mono HX.out.size))
           have HB9 := Lib.hid hb9
           clear hb9 hB9))
      all_goals
        go_wp2
        go_ret2
        exact ⟨_, R9, _, c9, x.1.da, x.2, rfl, HB9.out, GW.out.below HX.out, HPL.out, rfl, rfl, rfl, rfl, KeepG.of_below (HBW.out.trans (HX.out.mono HBW.out.size)) _, fun k hk => .inl hk, rfl, rfl, .inl rfl, by simp, fun h => h⟩
    | none =>
      have hsn : ∀ zd, D.atKey (.string nm.data.toList) zd = zd := fun zd => by rw [hseen zd, hi]; rfl
      have hhas := has_false_of_atKey hsn
      rw [hsn] at hRv
      have h1 := heldV_inv hRv
      injection h1 with h1 _
      injection h1 with h1
      subst h1
      rw [hhas] at hrun
      unfold zeroTV at hrun
      obtain ⟨W, hW, hbW, hhW, hltW, k0, k1⟩ := tvBox w1 (.slice none 0 0) 0 60
      have HBW := Lib.hid (HB1.out.trans (hbW.mono HB1.out.size))
      have GW := Lib.hid (G1.out.below hbW)
      have HHW := Lib.hid hhW
      have hltW' := hltW
      have hs2 := hbW.size
      obtain ⟨y0, y1, y2, y3, y4, y5, y6⟩ := guard_cell GW.out.blk
      have HI := Lib.hid hi
      have HHAS := Lib.hid hsn
      have HWW := Lib.hid hW
      clear hW hi hsn hhas hRv hbW hhW hltW hseen
      go_wp2_with fail
      rw [HWW.out]
      have p1 := Lib.frozen_of_heap GW.out.blk 5
      by_cases hm : mf ≤ (ts.length : Int)
      · go_quiet (fail)
        go_wp2
        go_ret2
        exact ⟨_, none, 0, 0, [], 11, rfl, ⟨⟨rfl, fun k hk => absurd hk (by omega)⟩, fun a h => by cases h⟩, GW.out.below (below_drawnF _ W _), HQ.out HI.out hm, rfl, rfl, rfl, rfl, KeepG.of_below (HBW.out.trans (below_drawnF _ W _)) _, fun k hk => .inl hk, rfl, rfl, .inl rfl, by simp, fun h => h⟩
      · have hbase : base ≤ w.heap.size := Nat.le_trans HG.out.gbase (Nat.le_of_lt hgl)
        have hget := HR.out HI.out (by omega)
        have HGET := Lib.hid hget
        clear hget
        go_quiet (fail)
        obtain ⟨V, hV⟩ : ∃ V, W.drewN nq = V := ⟨_, rfl⟩
        have hbV := below_drawnF W.heap.size W nq
        rw [hV] at hbV
        rw [hV]
        have GV := Lib.hid (GW.out.below hbV)
        have HBV := Lib.hid (HBW.out.trans (hbV.mono HBW.out.size))
        have HHV : Hid (V.heap[w1.heap.size]? = _) := Lib.hid ((hbV.block _ hltW').trans HHW.out)
        have hsV := hbV.size
        have HOV := Lib.hid (ownF_below GV.out.trace ((Below.refl V.heap.size V).alloc (Nat.le_refl _) (.cells #[.string nm] 9)))
        have HMV := Lib.hid (max0_below HM.out HBV.out)
        clear hV hbV y0 y1 y2 y3 y4 y5 y6 k0 k1 p1
        obtain ⟨y0, y1, y2, y3, y4, y5, y6⟩ := guard_cell GV.out.blk
        dsimp only at y0 y1 y2 y3 y4 y5 y6
        go_wp2_with (at_builtin; go_loud (refine wpList_append_own_at _ rfl (.tmp 47) (.tmp 49) 22 rfl base 9 j0 (.string ⟨#[]⟩) 1 16 Tryz.underlying22 hj0 hy0 hy1 hy2 rfl (by decide) _ ts.length _ rfl HOV.out _ 1 1 [.string nm] rfl rfl (cell_one_new _ _ _) (by intro u hu; simp at hu; subst hu; rfl) (by unfold maxLen; omega) (by omega) (by simp; omega) ?_))
        intro v' w2 hown' hgrow _ hat
        obtain ⟨A6, c6, rfl, hc61, hc62⟩ := ownF_shape hown'
        have e1 := (Below.refl V.heap.size V).alloc (Nat.le_refl _) (.cells #[.string nm] 9)
        have hk2 : KeepG V w2 (fun k => (Value.slice A5 ts.length c5).ownBlock = some k) := (KeepG.of_below e1 _).trans (KeepG.of_grown hgrow _ (fun k hk _ => hk))
        have hgne := own_ne GV.out.trace GV.out.blk (by decide)
        have hMne := own_not_map GV.out.trace GV.out.map
        have hbne := own_ne GV.out.trace HHV.out (by decide)
        dsimp only at hgne hMne hbne
        have hbV : w1.heap.size < V.heap.size := by omega
        have hg2 := (hk2.block g (by omega) hgne).trans GV.out.blk
        have hb2 := (hk2.block w1.heap.size hbV hbne).trans HHV.out
        dsimp only at hg2
        have hfz := Lib.frozen_of_heap hg2 5
        have hc5 := (guard_cell hg2).2.2.2.2.2.1
        obtain ⟨w3, hw3⟩ : ∃ w3, w2.setCell ⟨g, 5, none⟩ (.slice A6 (ts.length + 1) c6) = w3 := ⟨_, rfl⟩
        have hg3 : w3.heap[g]? = _ := hw3 ▸ guard_set5 hg2 (.slice A6 (ts.length + 1) c6)
        have hk3 : KeepG V w3 (fun k => (GM.mk mf lf rd B L.length d L A c ys (.slice A5 ts.length c5) M nM D ts vs).may g k ∨ k = w1.heap.size) := by
          rw [← hw3]; exact (hk2.mono (fun k _ h => .inl (.inr (.inr h)))).set (.inr (.inl (.inl rfl)))
        have hk23 : KeepG w2 w3 (fun k => k = g) := by
          rw [← hw3]; exact (KeepG.of_below (Below.refl _ _) _).set (.inr rfl)
        have hp3 := GV.out.parts HHV.out hk3
        have hx0 : 0 < w1.heap.size := by omega
        have hm3 := hk3.cell0 (GV.out.may0 h0 hx0) HMV.out
        have F3 := Lib.hid (ask_any A ys.length c ys nm g mf lf rd _ _ _ w3 m hp3.2.1.at hyn HYZ.out hm3 hg3 hg0 b1 (by omega) b3 (by omega))
        have HATT := Lib.hid hat
        have HOWN := Lib.hid hown'
        have HK2 := Lib.hid hk2
        have HK3 := Lib.hid hk3
        have HK23 := Lib.hid hk23
        have HB2 := Lib.hid hb2
        have HG2 := Lib.hid hg2
        have HNE := Lib.hid (And.intro hgne (And.intro hMne hbne))
        have hs3 := hk3.size
        clear hat hown' hk2 hk3 hk23 hb2 hgne hMne hbne hm3 hp3 hg3 e1 hgrow hg2 y0 y1 y2 y3 y4 y5 y6
        go_wp2_with fail
        refine F3.out.mono ?_
        rintro e w4 ⟨y, er, lf', rd', rfl, T⟩
        have hg4 := T.blk
        have hk34 : KeepG w3 w4 (fun k => k = g) := KeepG.of_grown T.grown _ (fun k hk _ => by injection hk with hk; exact hk.symm)
        have hgb : g ≠ w1.heap.size := by omega
        have hk24 : KeepG w2 w4 (fun k => k = g) := HK23.out.trans hk34
        have hb4 := (hk24.block w1.heap.size (by have := HK2.out.size; omega) (fun e => hgb e.symm)).trans HB2.out
        have f0 := Lib.frozen_of_heap hb4 0
        have f1 := Lib.frozen_of_heap hb4 1
        have k0 : w4.cell? ⟨w1.heap.size, 0, none⟩ = some (.slice none 0 0) := by rw [Lib.cell_of_heap hb4]; rfl
        have k1 : w4.cell? ⟨w1.heap.size, 1, none⟩ = some (.int .i64 0) := by rw [Lib.cell_of_heap hb4]; rfl
        have hb5 := Go.Joins.block_setCell (i := 1) (Go.Joins.block_setCell (i := 0) hb4 (.slice y.D y.n y.c)) (.int .i64 er)
        have hk5 : KeepG w2 ((w4.setCell ⟨w1.heap.size, 0, none⟩ (.slice y.D y.n y.c)).setCell ⟨w1.heap.size, 1, none⟩ (.int .i64 er)) (fun k => k = g ∨ k = w1.heap.size) := ((hk24.mono (fun k _ h => .inl h)).set (.inr (.inr rfl))).set (.inr (.inr rfl))
        have hk45 : KeepG w4 ((w4.setCell ⟨w1.heap.size, 0, none⟩ (.slice y.D y.n y.c)).setCell ⟨w1.heap.size, 1, none⟩ (.int .i64 er)) (fun k => k = w1.heap.size) := KeepG.set (KeepG.set (KeepG.of_below (Below.refl _ _) _) (.inr (by exact rfl))) (.inr (by exact rfl))
        obtain ⟨w5, hw5⟩ : ∃ w5, (w4.setCell ⟨w1.heap.size, 0, none⟩ (.slice y.D y.n y.c)).setCell ⟨w1.heap.size, 1, none⟩ (.int .i64 er) = w5 := ⟨_, rfl⟩
        rw [hw5] at hk5 hk45 hb5
        have hg5 := (hk45.block g (by have := hk24.size; have := HK2.out.size; omega) hgb).trans hg4
        have hb5' : w5.heap[w1.heap.size]? = some (.cells #[.slice y.D y.n y.c, .int .i64 er] 60 (0, 0)) := hb5
        have hkV5 : KeepG V w5 (fun k => (GM.mk mf lf rd B L.length d L A c ys (.slice A5 ts.length c5) M nM D ts vs).may g k ∨ k = w1.heap.size) :=
          (HK2.out.mono (fun k _ h => .inl (.inr (.inr h)))).trans (hk5.mono (fun k _ h => h.elim (fun h => .inl (.inl h)) .inr))
        have hMg : M ≠ g := mapV_not_cells GV.out.map GV.out.blk
        have hMb : M ≠ w1.heap.size := mapV_not_cells GV.out.map HHV.out
        have hM5 := mapV_same GV.out.map ((hk5.block M (Nat.lt_of_lt_of_le GV.out.map.lt HK2.out.size) (fun h => h.elim hMg hMb)).trans (HK2.out.block M GV.out.map.lt HNE.out.2.1))
        have ht5 := own_same HOWN.out (fun b hb => hk5.block b (own_blk HOWN.out hb).1 (fun h => h.elim (fun e => own_ne HOWN.out HG2.out (by decide) (e ▸ hb)) (fun e => own_ne HOWN.out HB2.out (by decide) (e ▸ hb))))
        have hmn := GV.out.mnum
        dsimp only at hM5 hmn
        obtain ⟨w6, hup, hM6, hgr6⟩ := hM5.drew.update lawV Tryz.underlying56 (by unfold maxLen; omega) (val := tvV (y, er)) HKEY.out rfl
        have hkV6 := (hkV5.drew).trans (KeepG.of_grown hgr6 (fun k => (GM.mk mf lf rd B L.length d L A c ys (.slice A5 ts.length c5) M nM D ts vs).may g k ∨ k = w1.heap.size) (fun k hk _ => .inl (.inr (.inl (by injection hk with hk; exact hk.symm)))))
        have hp6 := GV.out.parts HHV.out hkV6
        have hsz5 : w1.heap.size < w5.heap.size := Nat.lt_of_lt_of_le hbV hkV5.size
        have hb6 := (hgr6.block w1.heap.size hsz5 (by simpa using fun e : w1.heap.size = M => hMb e.symm)).trans hb5'
        have hg6 := (hgr6.block g (Array.getElem?_eq_some_iff.1 hg5).1 (by simpa using fun e : g = M => hMg e.symm)).trans hg5
        have ht6 := own_same ht5 (w' := w6) (fun b hb => hgr6.block b (own_blk ht5 hb).1 (by simpa using fun e : b = M => own_not_map ht5 hM5 (e ▸ hb)))
        have hu6 : ∀ (k : Nat) (ds : Array Value), w4.heap[k]? = some (.cells ds 5 (0, 0)) → w6.heap[k]? = some (.cells ds 5 (0, 0)) := fun k ds hd => by
          have h5 := (hk45.block k (Array.getElem?_eq_some_iff.1 hd).1 (by rintro rfl; rw [hb4] at hd; cases hd)).trans hd
          exact (hgr6.block k (Array.getElem?_eq_some_iff.1 h5).1 (by
            have := mapV_not_cells hM5 h5
            simpa using fun e : k = M => this e.symm)).trans h5
        have hfy := (T.fresh.keep hu6).base (show base ≤ w3.heap.size by omega)
        have hyn6 : y.n ≤ 1048576 := by
          rw [← hfy.ok.1.1]
          have e3 := ask_da (ps := ys.map An.pl) (m := lf + rd) (rd := rd) (s := nm) (B := 1048576) (fun a ha => by
            obtain ⟨x, hx, rfl⟩ := List.mem_map.1 ha
            show x.da.length ≤ _
            rw [((GV.out.script.2 x hx).ok).1.1]; exact HYZ.out x hx)
          rw [T.ask] at e3
          exact e3
        have hGn : GuardAt w6 base g (GM.mk mf lf' rd' B L.length d L A c ys (.slice A6 (ts.length + 1) c6) M (nM + 1) (D.put (.string nm.data.toList) (.held (tvV (y, er)))) (ts ++ [nm]) (vs ++ [(y, er)])) := by
          refine ⟨hg6, HG.out.gbase, hp6.1, hp6.2.1, ?_, ?_, hM6, GV.out.mbase, ?_, GV.out.seen.put hM5.isMap GV.out.vlen HI.out, ?_, ?_⟩
          · have e4 : (ts ++ [nm]).length = ts.length + 1 := by simp
            have e5 : txtCells (ts ++ [nm]) = txtCells ts ++ [Value.string nm] := by simp [txtCells]
            show w6.ownsRow base 9 1 (.slice A6 (ts.length + 1) c6) (ts ++ [nm]).length (txtCells (ts ++ [nm]))
            rw [e4, e5]; exact ht6
          · rcases HATT.out with h | h
            · have := GV.out.apart
              dsimp only at this ⊢
              rw [h]; exact this
            · right
              dsimp only at h ⊢
              rw [h]
              intro e
              have := (own_blk GV.out.allow e.symm).1
              omega
          · show nM + 1 ≤ (ts ++ [nm]).length
            simp; omega
          · show (vs ++ [(y, er)]).length = (ts ++ [nm]).length
            have := GV.out.vlen
            simpa using this
          · intro x hx
            rcases List.mem_append.1 hx with hx | hx
            · exact hp6.2.2 x hx
            · simp at hx; subst hx; exact hfy
        have hget := HGET.out
        rw [T.ask] at hget
        have hplain : getF L (ys.map An.pl) mf (lf + rd) ⟨ts, vs.map (fun x => (x.1.da, x.2)), rd⟩ id = (⟨ts ++ [nm], (vs ++ [(y, er)]).map (fun x => (x.1.da, x.2)), rd'⟩, (y.da, er)) := by rw [hget, List.map_append]; rfl
        have CB := Lib.hid (fun V (hb : Below w6.heap.size w6 V) => bclone_any y.D y.n y.c y.da V ((hfy.below hb).ok.1) hyn6)
        have GN := Lib.hid hGn
        have OWN : Hid ((Value.slice A6 (ts.length + 1) c6).ownBlock = (Value.slice A5 ts.length c5).ownBlock ∨ ∃ k, (Value.slice A6 (ts.length + 1) c6).ownBlock = some k ∧ w.heap.size ≤ k) := Lib.hid (HATT.out.imp (fun h => h) (fun h => ⟨_, h, by have := HBV.out.size; omega⟩))
        have HSH : Hid ((∀ x ∈ vs, x.1.n ≤ 1048576) → ∀ x ∈ vs ++ [(y, er)], x.1.n ≤ 1048576) := Lib.hid (fun h x hx => by
          rcases List.mem_append.1 hx with hx | hx
          · exact h x hx
          · simp at hx; subst hx; exact hyn6)
        have PL := Lib.hid hplain
        have SUM := Lib.hid T.left
        have KW : Hid (KeepG w w6 ((GM.mk mf lf rd B L.length d L A c ys (.slice A5 ts.length c5) M nM D ts vs).may g)) := Lib.hid ((KeepG.trans (KeepG.of_below HBV.out _) hkV6).mono (fun k hk h => h.elim (fun h => h) (fun e => absurd e (by omega))))
        have MORE : Hid (∀ k, (GM.mk mf lf' rd' B L.length d L A c ys (.slice A6 (ts.length + 1) c6) M (nM + 1) (D.put (.string nm.data.toList) (.held (tvV (y, er)))) (ts ++ [nm]) (vs ++ [(y, er)])).may g k → (GM.mk mf lf rd B L.length d L A c ys (.slice A5 ts.length c5) M nM D ts vs).may g k ∨ w.heap.size ≤ k) := by
          refine Lib.hid (fun k hk => ?_)
          rcases hk with h | h | h
          · exact .inl (.inl h)
          · exact .inl (.inr (.inl h))
          · rcases HATT.out with h2 | h2
            · exact .inl (.inr (.inr (h2.symm.trans h)))
            · right
              dsimp only at h2 h
              rw [h2] at h
              injection h with h
              have := HBV.out.size
              omega
        obtain ⟨-, -, -, -, -, -, u6⟩ := guard_cell hg5
        have j0 : w5.cell? ⟨w1.heap.size, 0, none⟩ = some (.slice y.D y.n y.c) := by rw [Lib.cell_of_heap hb5']; rfl
        have j1 : w5.cell? ⟨w1.heap.size, 1, none⟩ = some (.int .i64 er) := by rw [Lib.cell_of_heap hb5']; rfl
        have l0 : w6.cell? ⟨w1.heap.size, 0, none⟩ = some (.slice y.D y.n y.c) := by rw [Lib.cell_of_heap hb6]; rfl
        have l1 : w6.cell? ⟨w1.heap.size, 1, none⟩ = some (.int .i64 er) := by rw [Lib.cell_of_heap hb6]; rfl
        unfold tvV at hup
        have HL6 := Lib.hid (And.intro l0 l1)
        have kd := below_drewF w6.heap.size w6
        have HX := Lib.hid kd
        have HLT6 := (Array.getElem?_eq_some_iff.1 hb6).1
        have KC := Lib.hid (fun V (hb : Below w6.heap.size w6 V) => (⟨(hb.cell (p := ⟨w1.heap.size, 0, none⟩) HLT6).trans l0, (hb.cell (p := ⟨w1.heap.size, 1, none⟩) HLT6).trans l1⟩ : V.cell? ⟨w1.heap.size, 0, none⟩ = some (.slice y.D y.n y.c) ∧ V.cell? ⟨w1.heap.size, 1, none⟩ = some (.int .i64 er)))
        clear HL6 kd l0 l1 HLT6 hGn hplain hget hyn6 hfy hu6 ht6 hg6 hb6 hp6 hkV6 hM6 hgr6 hM5 ht5 hkV5 hMg hMb hmn hb5 hb5' hg5 hk45 hk5 hb4 hk24 hk34 hg4 T
        go_wp2_with fail
        go_region
        all_goals
          go_upto_region 13 with (fail)
          have j0' := KC.out _ HX.out
          go_region_held3 (fun w' => w'.cell? ⟨w1.heap.size, 0, none⟩ = some (.slice y.D y.n y.c) ∧ w'.cell? ⟨w1.heap.size, 1, none⟩ = some (.int .i64 er))
            (first | exact j0' | exact KC.out _ HX.out)
            (first
            | (go_at_call 27
               refine (CB.out _ HX.out).mono ?_
               rintro e w9 ⟨R9, c9, rfl, hb9, hB9⟩
               have HX := Lib.hid (HX.out.trans (hB9.mono HX.out.size))
               have HB9 := Lib.hid hb9
               clear hb9 hB9))
          all_goals
            go_wp2
            go_ret2
            exact ⟨_, R9, _, c9, y.da, er, rfl, HB9.out, GN.out.below HX.out, PL.out, by show lf' + rd' = lf + rd; have := SUM.out; omega, rfl, rfl, rfl, ⟨HX.out.os.trans KW.out.os, HX.out.tape.trans KW.out.tape, HX.out.output.trans KW.out.output, Nat.le_trans KW.out.size HX.out.size, fun k hk hn => (HX.out.block k (Nat.lt_of_lt_of_le hk KW.out.size)).trans (KW.out.block k hk hn)⟩, MORE.out, rfl, rfl, OWN.out, by simp, HSH.out⟩
end Go.Proofs.YtkneafpmgbgalaaGreatDoor
