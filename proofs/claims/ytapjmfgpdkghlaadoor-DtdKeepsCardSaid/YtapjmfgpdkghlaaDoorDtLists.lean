/- DtdLists: the attributes of each element of any declarations, in the order in which they came. Conditions: cref.known as the text lays it. -/
import Derived.Test.YtapjmfgpdkghlaaDoorDtLive
namespace Go.Proofs.YtapjmfgpdkghlaaDoor
open Go.RowKit Go.Maps
set_option linter.unusedVariables false
set_option linter.unusedSimpArgs false
theorem dT_ok {S : TSt} {k : Nat} (h : Bnd S k) (s : ByteArray) : (dT S.els s).length ≤ 12 * k ∧ ∀ y ∈ dT S.els s, OkDf y := by
  unfold dT
  split
  · cases hx : S.els[idxT (S.els.map (·.1)) s]? with
    | none => exact ⟨Nat.zero_le _, fun y hy => by cases hy⟩
    | some x => exact h.d x (List.mem_of_getElem? hx)
  · exact ⟨Nat.zero_le _, fun y hy => by cases hy⟩
/-- What is known of a table of declarations that are not too great. -/
structure TabOf (l : List Dc) (T : Tm) : Prop where
  st : T.st = tabR (l.map Dc.pl)
  bnd : Bnd T.st 16
theorem TabOf.mk2 {l : List Dc} {T : Tm} (h : T.st = tabR (l.map Dc.pl)) (hok : OkDcs (l.map Dc.pl)) : TabOf l T := ⟨h, by rw [h]; exact (Bnd.all hok).mono hok.1⟩
theorem TabOf.els {l : List Dc} {T : Tm} (h : TabOf l T) : T.els.length ≤ 16 := by
  have h1 := h.bnd.e
  unfold Tm.st at h1
  rwa [List.length_map] at h1
theorem TabOf.ds {l : List Dc} {T : Tm} (h : TabOf l T) : ∀ x ∈ T.els, x.ds.length ≤ 192 ∧ ∀ y ∈ x.ds, OkDf y.p := fun x hx => by
  have h1 := h.bnd.d (x.na, x.ds.map Df.p) (List.mem_map.2 ⟨x, hx, rfl⟩)
  rw [List.length_map] at h1
  exact ⟨h1.1, fun y hy => h1.2 y.p (List.mem_map.2 ⟨y, hy, rfl⟩)⟩
theorem TabOf.names {l : List Dc} {T : Tm} (h : TabOf l T) : T.els.map Elm.na = elsR (l.map Dc.pl) := by rw [← st_els, h.st, tab_names]
theorem TabOf.defs {l : List Dc} {T : Tm} (h : TabOf l T) (s : ByteArray) : (defsM T s).map Df.p = defsR (l.map Dc.pl) s := by rw [defsM_is, h.st, tab_defs]
theorem TabOf.defsOk {l : List Dc} {T : Tm} (h : TabOf l T) {s : ByteArray} {ds : List Df} (e : ds.map Df.p = (defsM T s).map Df.p) : ds.length ≤ 1048576 ∧ ∀ y ∈ ds, y.p.ws.length ≤ 1048576 := by
  have h1 := dT_ok h.bnd s
  rw [← defsM_is, ← e] at h1
  rw [List.length_map] at h1
  exact ⟨by omega, fun y hy => by have := (h1.2 y.p (List.mem_map.2 ⟨y, hy, rfl⟩)).2; omega⟩
theorem okDc_len {l : List Dc} (hok : OkDcs (l.map Dc.pl)) : ∀ d ∈ l, d.ds.length ≤ 1048576 := fun d hd => by
  have h1 := (hok.2 d.pl (List.mem_map.2 ⟨d, hd, rfl⟩)).1
  unfold Dc.pl at h1
  rw [List.length_map] at h1
  omega
/-- An element's attributes, told by the table and by the reference, are the same. -/
theorem defsTold {l : List Dc} {T : Tm} {w1 : World} {s : ByteArray} {ds ys : List Df} {A B : Option Addr} {c d : Nat} (h : TabOf l T) (e1 : ds.map Df.p = (defsM T s).map Df.p) (e2 : ys.map Df.p = defsR (l.map Dc.pl) s) (h1 : DfsAt w1 A ds.length ds) (h2 : DfsAt w1 B ys.length ys) :
    Calls Tryd.prog 10 #[.slice A ds.length c, .slice B ys.length d] w1 (RetBB true w1) := by
  have := defs17_any A ds.length c ds B ys.length d ys w1 h1 h2 (h.defsOk e1).1 (h.defsOk e1).2
  rwa [decide_eq_true (show ds.map Df.p = ys.map Df.p by rw [e1, e2, h.defs])] at this
theorem foldL_from (ds : List DcP) {s : ByteArray} : ∀ l : List ByteArray, hasT (ds.foldl stepL l) s = true → hasT l s = true ∨ ∃ d ∈ ds, d.na = s := by
  induction ds with
  | nil => intro l h; exact .inl h
  | cons d ds ih =>
    intro l h
    rcases ih _ h with h | ⟨e, he, hn⟩
    · unfold stepL at h
      split at h
      · split at h
        · exact .inl h
        · rw [hasT_snoc, Bool.or_eq_true] at h
          rcases h with h | h
          · exact .inl h
          · exact .inr ⟨d, List.mem_cons_self, by simpa using h⟩
      · exact .inl h
    · exact .inr ⟨e, List.mem_cons_of_mem _ he, hn⟩
theorem elsR_size {l : List DcP} (hok : OkDcs l) {x : ByteArray} (h : hasT (elsR l) x = true) : x.size ≤ 300 := by
  rcases foldL_from l [] h with h | ⟨d, hd, rfl⟩
  · simp [hasT] at h
  · exact (hok.2 d hd).2.1
set_option maxRecDepth 100000 in
set_option maxHeartbeats 8000000 in
theorem dtdLists_any (A : Option Addr) (n c : Nat) (l : List Dc) (w : World) (h : DcsAt w A n l) (hK : KnownAt w) : Calls Tryd.prog 3 #[.slice A n c] w (RetBB true w) := by
  have DS := Lib.hid h
  have HKN := Lib.hid hK
  have CG := Lib.hid (great17_any A n c l w h)
  clear h hK
  go_enter Tryd.func3, Tryd.ntmps3
  go_wp2_with fail
  refine CG.out.mono ?_
  rintro e w1 ⟨bg, rfl, hbg, hB1⟩
  have HB1 := Lib.hid hB1
  have HKN1 := Lib.hid (HKN.out.later hB1)
  clear hB1 CG
  cases bg with
  | true =>
    have CL := Lib.hid (live17_any w1 HKN1.out)
    clear hbg
    go_wp2_with fail
    refine CL.out.mono ?_
    rintro e w2 ⟨rfl, hB2⟩
    have HB2 := Lib.hid (HB1.out.trans (hB2.mono HB1.out.size))
    clear hB2 CL
    go_wp2
    go_ret
    exact ⟨rfl, HB2.out⟩
  | false =>
    have HOK := Lib.hid (hbg rfl)
    have hn : n ≤ 1048576 := by have h1 := (hbg rfl).1; rw [List.length_map, DS.out.1] at h1; omega
    have CF := Lib.hid (fill_any A n c l w1 (DcsAt.below (w := w) DS.out HB1.out) HOK.out HKN1.out)
    clear hbg
    go_wp2_with fail
    refine CF.out.mono ?_
    rintro e w2 ⟨tb, T, rfl, ht2, hst, hB2⟩
    have HT2 := Lib.hid ht2
    have TO := Lib.hid (TabOf.mk2 hst HOK.out)
    have HB2 := Lib.hid (HB1.out.trans (hB2.mono HB1.out.size))
    have CE := Lib.hid (elements_any ht2 (by have := TO.out.els; omega))
    clear ht2 hst hB2 CF
    go_wp2_with fail
    refine CE.out.mono ?_
    rintro e w3 ⟨A3, c3, rfl, ho3, hB3⟩
    have HB3 := Lib.hid (HB2.out.trans (hB3.mono HB2.out.size))
    have HT3 := Lib.hid (HT2.out.below hB3)
    have TS := Lib.hid (TsAt.of_own ho3)
    have hnl : (T.els.map Elm.na).length ≤ 16 := by rw [List.length_map]; exact TO.out.els
    clear ho3 hB3 CE
    generalize hns : T.els.map Elm.na = ns at *
    have HNS := Lib.hid hns
    clear hns
    go_wp2
    go_loopw [6] (fun i wr => ∃ (k : Nat), k ≤ ns.length ∧ i = .int .i64 k ∧ Hid (Below w3.heap.size w3 wr)) (fun i _ => ns.length - (intOf i).toNat)
    case atStart => exact ⟨0, by omega, rfl, Below.refl _ _⟩
    case round =>
      obtain ⟨k, hk, rfl, HB⟩ := hrel
      have HBA := Lib.hid (HB3.out.trans (HB.out.mono HB3.out.size))
      by_cases hlt : k < ns.length
      · obtain ⟨a, x, rfl, hx, hab, g0⟩ := (TsAt.below (w := w3) TS.out HB.out).2 k hlt
        have b0 : (0 : Int) ≤ (k : Int) := by omega
        have b1 : (k : Int) < (ns.length : Int) := by omega
        have hxs : x.size ≤ maxLen := by
          have h1 : hasT ns x = true := hasT_mem.2 (List.mem_of_getElem? hx)
          rw [← HNS.out] at h1
          rw [TO.out.names] at h1
          have h2 := elsR_size HOK.out h1
          unfold maxLen
          omega
        have CD := Lib.hid (defs_any ((HT3.out.below HB.out).below (show Below wr.heap.size wr wr.drew from (Below.refl _ _).drew)) x hxs (by have := TO.out.els; omega) (fun y hy => by have := (TO.out.ds y hy).1; omega) (fun y hy z hz => by have := ((TO.out.ds y hy).2 z hz).2; omega))
        have f0 : wr.drew.cell? (a.add k) = some (.string x) := g0
        have HS : Hid (∀ V, Below wr.heap.size wr V → V.cell? (a.add k) = some (.string x)) := Lib.hid (fun V hV => (hV.cell (by rw [addBlockT]; exact hab)).trans g0)
        clear hx hxs
        go_wp2_with fail
        refine wp_region_held_drew (S := fun V => V.cell? (a.add k) = some (.string x)) (by kernel_rfl) f0 (fun hHeld => ?_)
        --TAKES narthex/narthexlaw17.DtdLists:8 0..4 6..10
        refine wpAnyH_take (i := 0) (oi := ({ dst := some 23, op := Op.move (Operand.tmp 3), type := 25, pos := "law.go:77", after := #[], guard := none } : Oper)) (v := ?_) rfl (by kernel_rfl) (by kernel_rfl) (by kernel_rfl) (fun _ _ _ h => h) (Or.inl ⟨by rfl, ?_⟩) (by assumption) ?_
        rotate_left 1
        · intro w hSw; (try dsimp only at hSw); go_simp; try with_reducible rfl
        (try simp only [Act.put, List.setIfInBounds_toArray, List.set_cons_zero, List.set_cons_succ])
        refine wpAnyH_take (i := 1) (oi := ({ dst := some 24, op := Op.move (Operand.tmp 5), type := 28, pos := "law.go:77", after := #[], guard := none } : Oper)) (v := ?_) rfl (by kernel_rfl) (by kernel_rfl) (by kernel_rfl) (fun _ _ _ h => h) (Or.inl ⟨by rfl, ?_⟩) (by assumption) ?_
        rotate_left 1
        · intro w hSw; (try dsimp only at hSw); go_simp; try with_reducible rfl
        (try simp only [Act.put, List.setIfInBounds_toArray, List.set_cons_zero, List.set_cons_succ])
        refine wpAnyH_take (i := 2) (oi := ({ dst := some 25, op := Op.move (Operand.tmp 6), type := 3, pos := "law.go:77", after := #[], guard := none } : Oper)) (v := ?_) rfl (by kernel_rfl) (by kernel_rfl) (by kernel_rfl) (fun _ _ _ h => h) (Or.inl ⟨by rfl, ?_⟩) (by assumption) ?_
        rotate_left 1
        · intro w hSw; (try dsimp only at hSw); go_simp; try with_reducible rfl
        (try simp only [Act.put, List.setIfInBounds_toArray, List.set_cons_zero, List.set_cons_succ])
        refine wpAnyH_take (i := 3) (oi := ({ dst := some 26, op := Op.indexAddr 28 (Operand.tmp 24) (Operand.tmp 25), type := 0, pos := "law.go:77", after := #[{ on := 1, ground := Ground.data }, { on := 2, ground := Ground.data }], guard := none } : Oper)) (v := ?_) rfl (by kernel_rfl) (by kernel_rfl) (by kernel_rfl) (fun _ _ _ h => h) (Or.inl ⟨by rfl, ?_⟩) (by assumption) ?_
        rotate_left 1
        · intro w hSw; (try dsimp only at hSw); go_simp; try with_reducible rfl
        (try simp only [Act.put, List.setIfInBounds_toArray, List.set_cons_zero, List.set_cons_succ])
        refine wpAnyH_take (i := 4) (oi := ({ dst := some 27, op := Op.load 9 (Operand.tmp 26), type := 9, pos := "law.go:77", after := #[{ on := 3, ground := Ground.data }], guard := none } : Oper)) (v := ?_) rfl (by kernel_rfl) (by kernel_rfl) (by kernel_rfl) (fun _ _ _ h => h) (Or.inl ⟨by rfl, ?_⟩) (by assumption) ?_
        rotate_left 1
        · intro w hSw; (try dsimp only at hSw); go_simp; try with_reducible rfl
        (try simp only [Act.put, List.setIfInBounds_toArray, List.set_cons_zero, List.set_cons_succ])
        refine wpAnyH_take (i := 6) (oi := ({ dst := some 29, op := Op.move (Operand.tmp 0), type := 22, pos := "law.go:77", after := #[], guard := none } : Oper)) (v := ?_) rfl (by kernel_rfl) (by kernel_rfl) (by kernel_rfl) (fun _ _ _ h => h) (Or.inl ⟨by rfl, ?_⟩) (by assumption) ?_
        rotate_left 1
        · intro w hSw; (try dsimp only at hSw); go_simp; try with_reducible rfl
        (try simp only [Act.put, List.setIfInBounds_toArray, List.set_cons_zero, List.set_cons_succ])
        refine wpAnyH_take (i := 7) (oi := ({ dst := some 30, op := Op.move (Operand.tmp 5), type := 28, pos := "law.go:77", after := #[], guard := none } : Oper)) (v := ?_) rfl (by kernel_rfl) (by kernel_rfl) (by kernel_rfl) (fun _ _ _ h => h) (Or.inl ⟨by rfl, ?_⟩) (by assumption) ?_
        rotate_left 1
        · intro w hSw; (try dsimp only at hSw); go_simp; try with_reducible rfl
        (try simp only [Act.put, List.setIfInBounds_toArray, List.set_cons_zero, List.set_cons_succ])
        refine wpAnyH_take (i := 8) (oi := ({ dst := some 31, op := Op.move (Operand.tmp 6), type := 3, pos := "law.go:77", after := #[], guard := none } : Oper)) (v := ?_) rfl (by kernel_rfl) (by kernel_rfl) (by kernel_rfl) (fun _ _ _ h => h) (Or.inl ⟨by rfl, ?_⟩) (by assumption) ?_
        rotate_left 1
        · intro w hSw; (try dsimp only at hSw); go_simp; try with_reducible rfl
        (try simp only [Act.put, List.setIfInBounds_toArray, List.set_cons_zero, List.set_cons_succ])
        refine wpAnyH_take (i := 9) (oi := ({ dst := some 32, op := Op.indexAddr 28 (Operand.tmp 30) (Operand.tmp 31), type := 0, pos := "law.go:77", after := #[{ on := 7, ground := Ground.data }, { on := 8, ground := Ground.data }], guard := none } : Oper)) (v := ?_) rfl (by kernel_rfl) (by kernel_rfl) (by kernel_rfl) (fun _ _ _ h => h) (Or.inl ⟨by rfl, ?_⟩) (by assumption) ?_
        rotate_left 1
        · intro w hSw; (try dsimp only at hSw); go_simp; try with_reducible rfl
        (try simp only [Act.put, List.setIfInBounds_toArray, List.set_cons_zero, List.set_cons_succ])
        refine wpAnyH_take (i := 10) (oi := ({ dst := some 33, op := Op.load 9 (Operand.tmp 32), type := 9, pos := "law.go:77", after := #[{ on := 9, ground := Ground.data }], guard := none } : Oper)) (v := ?_) rfl (by kernel_rfl) (by kernel_rfl) (by kernel_rfl) (fun _ _ _ h => h) (Or.inl ⟨by rfl, ?_⟩) (by assumption) ?_
        rotate_left 1
        · intro w hSw; (try dsimp only at hSw); go_simp; try with_reducible rfl
        (try simp only [Act.put, List.setIfInBounds_toArray, List.set_cons_zero, List.set_cons_succ])
        --END
        refine wpAnyH_ready (rs := [5]) (by kernel_rfl) (by simp) ?_
        refine AllReadyH.cons (o := _) rfl (fun K hK => ?_) AllReadyH.nil
        go_simp
        refine CD.out.mono ?_
        rintro e w5 ⟨ds, A5, c5, rfl, hd5, ho5, hw5, hB5⟩
        have hB5' : Below wr.heap.size wr w5 := (show Below wr.heap.size wr wr.drew from (Below.refl _ _).drew).trans hB5
        have HD5 := Lib.hid hd5
        have HDF5 := Lib.hid (DfsAt.of_own ho5 (fun d hd => TsAt.of_own (hw5 d hd)))
        have HB5 := Lib.hid (HB.out.trans (hB5'.mono HB.out.size))
        have HBA5 := Lib.hid (HBA.out.trans (hB5'.mono HBA.out.size))
        have CR := Lib.hid (rdefs_any A n c l x w5 (DcsAt.below (w := w) DS.out HBA5.out) hn (okDc_len HOK.out))
        dsimp only
        refine hK.out _ _ (HS.out _ hB5') (fun hHeld => ?_)
        clear hK K CD hd5 ho5 hw5 hB5
        (try simp only [Act.put, List.setIfInBounds_toArray, List.set_cons_zero, List.set_cons_succ])
        refine wpAnyH_ready (rs := [11]) (by kernel_rfl) (by simp) ?_
        refine AllReadyH.cons (o := _) rfl (fun K hK => ?_) AllReadyH.nil
        go_simp
        refine CR.out.mono ?_
        rintro e w6 ⟨ys, A6, c6, rfl, hd6, ho6, hw6, hB6⟩
        have hB6' : Below wr.heap.size wr w6 := hB5'.trans (hB6.mono hB5'.size)
        have HDF6 := Lib.hid (DfsAt.of_own ho6 (fun y hy => (hw6 y hy).below hB6))
        have HBA6 := Lib.hid (HBA5.out.trans (hB6.mono HBA5.out.size))
        have CS := Lib.hid (defsTold (c := c5) (d := c6) TO.out HD5.out hd6 (DfsAt.below (w := w5) HDF5.out hB6) HDF6.out)
        dsimp only
        refine hK.out _ _ (HS.out _ hB6') (fun hHeld => ?_)
        clear hK K CR hd6 ho6 hw6 hB6
        (try simp only [Act.put, List.setIfInBounds_toArray, List.set_cons_zero, List.set_cons_succ])
        refine wpAnyH_ready (rs := [12]) (by kernel_rfl) (by simp) ?_
        refine AllReadyH.cons (o := _) rfl (fun K hK => ?_) AllReadyH.nil
        go_simp
        refine CS.out.mono ?_
        rintro e w7 ⟨rfl, hB7⟩
        have hB7' : Below wr.heap.size wr w7 := hB6'.trans (hB7.mono hB6'.size)
        have HB7 := Lib.hid (HB.out.trans (hB7'.mono HB.out.size))
        dsimp only
        refine hK.out _ _ (HS.out _ hB7') (fun hHeld => ?_)
        clear hK K CS hB5' hB6' hB7 hB7' HS f0 g0 hab
        (try simp only [Act.put, List.setIfInBounds_toArray, List.set_cons_zero, List.set_cons_succ])
        --TAKES narthex/narthexlaw17.DtdLists:8 13
        refine wpAnyH_take (i := 13) (oi := ({ dst := some 36, op := Op.unOp UnOp.not 4 (Operand.tmp 35), type := 4, pos := "law.go:77", after := #[{ on := 12, ground := Ground.data }], guard := none } : Oper)) (v := ?_) rfl (by kernel_rfl) (by kernel_rfl) (by kernel_rfl) (fun _ _ _ h => h) (Or.inl ⟨by rfl, ?_⟩) (by assumption) ?_
        rotate_left 1
        · intro w hSw; (try dsimp only at hSw); go_simp; try with_reducible rfl
        (try simp only [Act.put, List.setIfInBounds_toArray, List.set_cons_zero, List.set_cons_succ])
        --END
        refine wpAnyH_done (by kernel_rfl) ?_ _
        clear hHeld
        go_wp2
        go_roundw
        case rel => exact ⟨k + 1, by omega, by go_num, HB7⟩
        case measure => simp [intOf]; omega
      · obtain rfl : k = ns.length := by omega
        have CE := Lib.hid (relems_any A n c l wr (DcsAt.below (w := w) DS.out HBA.out) hn)
        have hel : (elsR (l.map Dc.pl)).length = ns.length := by rw [← TO.out.names, HNS.out]
        go_wp2_with fail
        refine CE.out.mono ?_
        rintro e w5 ⟨A5, c5, rfl, _, hB5⟩
        rw [hel]
        have HB5 := Lib.hid (HBA.out.trans (hB5.mono HBA.out.size))
        have CL := Lib.hid (live17_any w5 (KnownAt.later HKN.out HB5.out))
        clear CE hB5 hel
        go_wp2_with fail
        refine CL.out.mono ?_
        rintro e w6 ⟨rfl, hB6⟩
        have HB6 := Lib.hid (HB5.out.trans (hB6.mono HB5.out.size))
        clear CL hB6
        go_wp2
        go_ret
        exact ⟨rfl, HB6.out⟩
end Go.Proofs.YtapjmfgpdkghlaaDoor
