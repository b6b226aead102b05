/- dtd.Table.list: attributes of an element. Conditions: names and words within the reach; at most 2^20 of each. -/
import Derived.Test.YtapjmfgpdkghlaaDoorDtIn
import Derived.Deep.Cut
namespace Go.Proofs.YtapjmfgpdkghlaaDoor
open Go.RowKit Go.Maps
set_option linter.unusedVariables false
set_option linter.unusedSimpArgs false
/-- What add tells of a table. -/
def TabTold (base tb : Nat) (T : Tm) (S : TSt) (v : Value) (w : World) (e : Ending) (w' : World) : Prop := e = .returned v ∧ ∃ T', TabKept w w' base tb T T' ∧ T'.st = S
theorem Tm.foot_lt {w : World} {base tb : Nat} {T : Tm} (h : TabAt w base tb T) {k : Nat} (hk : T.foot k) : k < w.heap.size := by
  obtain ⟨R, hR, hr⟩ := hk
  exact h.small R hR k hr
theorem TabAt.cell {w : World} {base tb : Nat} {T : Tm} (h : TabAt w base tb T) : w.cell? ⟨tb, 0, none⟩ = some (.pointer (some ⟨T.g.rb, 0, none⟩)) ∧ w.cell? ⟨tb, 1, none⟩ = some (.pointer (some ⟨T.p.rb, 0, none⟩)) ∧ w.cell? ⟨tb, 2, none⟩ = some (.pointer (some ⟨T.n.rb, 0, none⟩)) ∧ w.cell? ⟨tb, 3, none⟩ = some (.pointer (some ⟨T.e.rb, 0, none⟩)) :=
  ⟨cellsOf_block h.blk rfl, cellsOf_block h.blk rfl, cellsOf_block h.blk rfl, cellsOf_block h.blk rfl⟩
theorem elCells_at {l : List Elm} {i : Nat} {x : Elm} (hx : l[i]? = some x) : ∀ j u, [Value.string x.na, .pointer (some ⟨x.R.rb, 0, none⟩)][j]? = some u → (elCells l)[i * 2 + j]? = some u := by
  induction l generalizing i with
  | nil => simp at hx
  | cons y l ih =>
    intro j u hj
    cases i with
    | zero =>
      simp at hx
      subst hx
      have e : elCells (y :: l) = [Value.string y.na, .pointer (some ⟨y.R.rb, 0, none⟩)] ++ elCells l := rfl
      rw [e, List.getElem?_append_left (by have := (List.getElem?_eq_some_iff.1 hj).1; simp at this ⊢; omega)]
      simpa using hj
    | succ i =>
      rw [List.getElem?_cons_succ] at hx
      have e : elCells (y :: l) = [Value.string y.na, .pointer (some ⟨y.R.rb, 0, none⟩)] ++ elCells l := rfl
      rw [e, List.getElem?_append_right (by simp; omega), show (i + 1) * 2 + j - [Value.string y.na, .pointer (some ⟨y.R.rb, 0, none⟩)].length = i * 2 + j by simp; omega]
      exact ih hx j u hj
theorem addBy_len {α : Type} (f : α → ByteArray) (l : List α) (x : α) : (addBy f l x).length ≤ l.length + 1 := by
  unfold addBy
  split
  · omega
  · simp
theorem addDs_len (ds : List DfP) : ∀ l, (addDs l ds).length ≤ l.length + ds.length := by
  induction ds with
  | nil => intro l; exact Nat.le_refl _
  | cons d ds ih =>
    intro l
    have h1 := ih (addBy DfP.na l d)
    have h2 := addBy_len DfP.na l d
    show (addDs (addBy DfP.na l d) ds).length ≤ _
    rw [List.length_cons]; omega
theorem addDs_next {l ds : List DfP} {k : Nat} {d : DfP} (h : ds[k]? = some d) : addDs l (ds.take (k + 1)) = addBy DfP.na (addDs l (ds.take k)) d := by
  unfold addDs
  rw [List.take_add_one, h, List.foldl_append]
  rfl
set_option maxRecDepth 100000 in
set_option maxHeartbeats 8000000 in
theorem list_any (base tb : Nat) (T : Tm) (name : ByteArray) (A : Option Addr) (n c : Nat) (ds : List Df) (w : World) (h : TabAt w base tb T) (hb : base ≤ w.heap.size) (hd : DfsAt w A n ds) (hoff : Off T.foot A) (hoffw : ∀ d ∈ ds, 0 < d.p.ws.length → Off T.foot d.A)
    (hns : name.size ≤ maxLen) (hds : ∀ d ∈ ds, d.p.na.size ≤ maxLen ∧ d.p.ws.length ≤ 1048576) (hel : T.els.length ≤ 1048575) (hdn : ∀ x ∈ T.els, x.ds.length + n ≤ 1048576) (hn : n ≤ 1048576) :
    Calls Tryd.prog 42 #[.pointer (some ⟨tb, 0, none⟩), .string name, .slice A n c] w (TabTold base tb T { T.st with els := addEl T.st.els name (ds.map Df.p) } (.tuple #[]) w) := by
  have HT := Lib.hid h
  have HD := Lib.hid hd
  have HO := Lib.hid hoff
  have HOW := Lib.hid hoffw
  have HDS := Lib.hid hds
  have HDN := Lib.hid hdn
  have c3 := h.cell.2.2.2
  have k3 : w.drew.cell? ⟨tb, 3, none⟩ = some (.pointer (some ⟨T.e.rb, 0, none⟩)) := c3
  have hEl := Lib.hid hel
  clear h hd hoff hoffw hds hdn c3 hel
  go_enter Tryd.func42, Tryd.ntmps42
  go_upto_region 0 with (fail)
  refine wp_region_late [(8, fun V => V.cell? ⟨tb, 3, none⟩ = some (.pointer (some ⟨T.e.rb, 0, none⟩)))] (by kernel_rfl) ⟨.inr k3, trivial⟩ (fun hC0 => ?_)
  --REG (*narthex/dtd.Table).list:0 0 1 2 3@0 4 5
  refine wpAnyL_pure (i := 0) (oi := ({ dst := some 10, op := Op.move (Operand.tmp 0), type := 25, pos := "dtd.go:66", after := #[], guard := none } : Oper)) (v := ?_) rfl (by kernel_rfl) (by kernel_rfl) (by kernel_rfl) (by kernel_rfl) (fun _ _ _ h => h) (Or.inl ⟨by rfl, ?_⟩) (by assumption) (by kernel_rfl) ?_
  rotate_left 1
  · intro w hSw; clear hSw; go_simp; try with_reducible rfl
  (try simp only [Act.put, List.setIfInBounds_toArray, List.set_cons_zero, List.set_cons_succ])
  refine wpAnyL_pure (i := 1) (oi := ({ dst := some 11, op := Op.nilCheck (Operand.tmp 10), type := 0, pos := "dtd.go:66", after := #[{ on := 0, ground := Ground.data }], guard := none } : Oper)) (v := ?_) rfl (by kernel_rfl) (by kernel_rfl) (by kernel_rfl) (by kernel_rfl) (fun _ _ _ h => h) (Or.inl ⟨by rfl, ?_⟩) (by assumption) (by kernel_rfl) ?_
  rotate_left 1
  · intro w hSw; clear hSw; go_simp; try with_reducible rfl
  (try simp only [Act.put, List.setIfInBounds_toArray, List.set_cons_zero, List.set_cons_succ])
  refine wpAnyL_pure (i := 2) (oi := ({ dst := some 12, op := Op.fieldAddr 71 (Operand.tmp 11) 3, type := 0, pos := "dtd.go:66", after := #[{ on := 1, ground := Ground.data }], guard := none } : Oper)) (v := ?_) rfl (by kernel_rfl) (by kernel_rfl) (by kernel_rfl) (by kernel_rfl) (fun _ _ _ h => h) (Or.inl ⟨by rfl, ?_⟩) (by assumption) (by kernel_rfl) ?_
  rotate_left 1
  · intro w hSw; clear hSw; go_simp; try with_reducible rfl
  (try simp only [Act.put, List.setIfInBounds_toArray, List.set_cons_zero, List.set_cons_succ])
  refine wpAnyL_take (i := 3) 0 (oi := ({ dst := some 13, op := Op.load 69 (Operand.tmp 12), type := 69, pos := "dtd.go:66", after := #[{ on := 2, ground := Ground.data }], guard := none } : Oper)) (v := ?_) rfl (by kernel_rfl) (by kernel_rfl) (by kernel_rfl) rfl (by kernel_rfl) (by kernel_rfl) (by kernel_rfl) (fun _ _ _ h => h) (Or.inl ⟨by rfl, ?_⟩) (by assumption) (by kernel_rfl) ?_
  rotate_left 1
  · intro w hSw; (try dsimp only at hSw); go_simp; try with_reducible rfl
  (try simp only [Act.put, List.setIfInBounds_toArray, List.set_cons_zero, List.set_cons_succ])
  refine wpAnyL_pure (i := 4) (oi := ({ dst := some 14, op := Op.move (Operand.tmp 1), type := 9, pos := "dtd.go:66", after := #[], guard := none } : Oper)) (v := ?_) rfl (by kernel_rfl) (by kernel_rfl) (by kernel_rfl) (by kernel_rfl) (fun _ _ _ h => h) (Or.inl ⟨by rfl, ?_⟩) (by assumption) (by kernel_rfl) ?_
  rotate_left 1
  · intro w hSw; clear hSw; go_simp; try with_reducible rfl
  (try simp only [Act.put, List.setIfInBounds_toArray, List.set_cons_zero, List.set_cons_succ])
  refine wpAnyL_pure (i := 5) (oi := ({ dst := some 15, op := Op.move (Operand.tmp 1), type := 9, pos := "dtd.go:66", after := #[], guard := none } : Oper)) (v := ?_) rfl (by kernel_rfl) (by kernel_rfl) (by kernel_rfl) (by kernel_rfl) (fun _ _ _ h => h) (Or.inl ⟨by rfl, ?_⟩) (by assumption) (by kernel_rfl) ?_
  rotate_left 1
  · intro w hSw; clear hSw; go_simp; try with_reducible rfl
  (try simp only [Act.put, List.setIfInBounds_toArray, List.set_cons_zero, List.set_cons_succ])
  --END
  refine wpAnyL_ready (rs := [6]) (by kernel_rfl) (by simp) ?_
  refine AllReadyL.cons (o := _) rfl (fun K hK => ?_) AllReadyL.nil
  go_simp
  refine (begunDf_any _).mono ?_
  rintro e w1 ⟨Rn, rfl, hrn, hB1⟩
  have HB1 := Lib.hid ((show Below w.heap.size w w.drew from (Below.refl _ w).drew).trans hB1)
  have T1 := HT.out.below HB1.out
  have k1 := T1.cell.2.2.2
  have RN := Lib.hid (show RowAt w1 w.heap.size _ _ 5 Rn [] [] from hrn)
  refine hK.out _ _ ⟨.inr k1, trivial⟩ (fun hC1 => ?_)
  clear hK K hC0
  (try simp only [Act.put, List.setIfInBounds_toArray, List.set_cons_zero, List.set_cons_succ])
  --REG (*narthex/dtd.Table).list:0 7
  refine wpAnyL_pure (i := 7) (oi := ({ dst := some 17, op := Op.build 74 #[(0, Operand.tmp 15), (1, Operand.tmp 16)], type := 74, pos := "dtd.go:66", after := #[{ on := 5, ground := Ground.data }, { on := 6, ground := Ground.data }], guard := none } : Oper)) (v := ?_) rfl (by kernel_rfl) (by kernel_rfl) (by kernel_rfl) (by kernel_rfl) (fun _ _ _ h => h) (Or.inl ⟨by rfl, ?_⟩) (by assumption) (by kernel_rfl) ?_
  rotate_left 1
  · intro w hSw; clear hSw; go_simp; try with_reducible rfl
  (try simp only [Act.put, List.setIfInBounds_toArray, List.set_cons_zero, List.set_cons_succ])
  --END
  have CE := Lib.hid (addEl_any base T.e (T.els.map Elm.na) (elCells T.els) name name (some ⟨Rn.rb, 0, none⟩) w1 T1.els hns (by rw [List.length_map]; have := hEl.out; omega) (Nat.le_trans hb HB1.out.size))
  refine wpAnyL_ready (rs := [8]) (by kernel_rfl) (by simp) ?_
  refine AllReadyL.cons (o := _) rfl (fun K hK => ?_) AllReadyL.nil
  go_simp
  refine CE.out.mono ?_
  intro e w2 hadd
  have he := hadd.1
  subst he
  obtain ⟨T2, hk2, hst2⟩ := putElm HT.out HB1.out name RN.out hb hadd
  dsimp only
  refine hK.out _ _ ⟨.inl (by rfl), trivial⟩ (fun hC2 => ?_)
  clear hK K hC1 hadd CE T1 k1 hrn hB1
  (try simp only [Act.put, List.setIfInBounds_toArray, List.set_cons_zero, List.set_cons_succ])
  refine wpAnyL_done (by kernel_rfl) ?_ _
  clear hC2
  have hnames : T2.els.map Elm.na = addN1 (T.els.map Elm.na) name := by
    rw [← st_els T2, hst2]
    show (addBy (·.1) T.st.els (name, [])).map (·.1) = _
    rw [← names_add (fun x : ByteArray × List DfP => x.1) T.st.els (name, []), st_els]
  have hhas : hasT (T2.els.map Elm.na) name = true := by
    rw [hnames]
    unfold addN1
    split
    · assumption
    · rw [hasT_snoc]; simp
  have hix := idxT_is hhas
  obtain ⟨x, hx, hxn⟩ : ∃ x, T2.els[idxT (T2.els.map Elm.na) name]? = some x ∧ x.na = name := by
    rw [List.getElem?_map] at hix
    exact Option.map_eq_some_iff.1 hix
  have hel2 : T2.els.length ≤ 1048576 := by
    have := congrArg List.length hnames
    rw [List.length_map] at this
    unfold addN1 at this
    have h3 := hEl.out
    split at this
    · rw [List.length_map] at this; omega
    · rw [List.length_append, List.length_map] at this; simp at this; omega
  have hxl : x.ds.length + n ≤ 1048576 := by
    have h1 : (name, x.ds.map Df.p) ∈ T2.st.els := by
      unfold Tm.st
      exact List.mem_map.2 ⟨x, List.mem_of_getElem? hx, by rw [hxn]⟩
    rw [hst2] at h1
    have h1 : (name, x.ds.map Df.p) ∈ addBy (·.1) T.st.els (name, []) := h1
    have h2 : (name, x.ds.map Df.p) ∈ T.st.els ∨ (name, x.ds.map Df.p) = (name, []) := by
      unfold addBy at h1
      split at h1
      · exact .inl h1
      · rcases List.mem_append.1 h1 with h3 | h3
        · exact .inl h3
        · exact .inr (by simpa using h3)
    rcases h2 with h2 | h2
    · unfold Tm.st at h2
      obtain ⟨y, hy, hye⟩ := List.mem_map.1 h2
      have h4 := HDN.out y hy
      have h5 := congrArg (fun z : ByteArray × List DfP => z.2.length) hye
      simp at h5
      omega
    · have h5 := congrArg (fun z : ByteArray × List DfP => z.2.length) h2
      simp at h5
      rw [h5]; simp; exact hn
  have HXL := Lib.hid hxl
  have G := Lib.hid (getEl_any base T2.e (T2.els.map Elm.na) (elCells T2.els) name name (some ⟨x.R.rb, 0, none⟩) w2 hk2.tab.els hns (by rw [List.length_map]; exact hel2) hhas (by have := elCells_at hx; rw [hxn] at this; exact this))
  have K2 := Lib.hid hk2
  have ST2 := Lib.hid hst2
  have HX := Lib.hid hx
  have k2 := hk2.tab.cell.2.2.2
  have HI := Lib.hid (show idxT (T2.st.els.map (·.1)) name = idxT (T2.els.map Elm.na) name from by rw [st_els])
  generalize idxT (T2.els.map Elm.na) name = i at *
  clear hnames hhas hix hx hk2 hst2 RN hxl
  go_wp2_with fail
  refine G.out.mono ?_
  rintro e w3 ⟨rfl, hB3⟩
  obtain ⟨W3, hW3, hsW3, hBW3, bx3⟩ := boxWorld w3 #[.string name, .pointer (some ⟨x.R.rb, 0, none⟩)] 74
  have K3 := Lib.hid (K2.out.trans (TabKept.refl K2.out.tab (hB3.trans (hBW3.mono hB3.size))))
  have hge : w2.heap.size ≤ w3.heap.size := hB3.size
  clear hB3 hBW3 k2 G
  go_upto_region 2 with (fail)
  clear hW3
  have hnl : (n : Int) ≤ 1048576 := by omega
  have l2 : ∀ k, T2.foot k → k < w3.heap.size := fun k hk => Nat.lt_of_lt_of_le (Tm.foot_lt K2.out.tab hk) hge
  have HL2 := Lib.hid l2
  have TR := Lib.hid (TabKept.refl K3.out.tab (Below.refl _ W3))
  have HX0 := Lib.hid (show x.ds.map Df.p = addDs (x.ds.map Df.p) ((ds.map Df.p).take 0) from rfl)
  have HX1 := Lib.hid (show T2.st = { T2.st with els := T2.st.els.set i (name, addDs (x.ds.map Df.p) ((ds.map Df.p).take 0)) } from by
    have e : T2.st.els[i]? = some (name, x.ds.map Df.p) := by
      unfold Tm.st
      rw [List.getElem?_map, HX.out, Option.map_some, hxn]
    have e2 : T2.st.els.set i (name, addDs (x.ds.map Df.p) ((ds.map Df.p).take 0)) = T2.st.els := by
      apply List.ext_getElem?
      intro j
      rw [List.getElem?_set]
      by_cases h : i = j
      · subst h
        rw [if_pos rfl, if_pos (List.getElem?_eq_some_iff.1 e).1, e]; rfl
      · rw [if_neg h]
    rw [e2])
  clear l2
  go_wp2_with fail
  go_loopw [30] (fun v30 wr => ∃ (k : Nat) (Tk : Tm) (xk : Elm), k ≤ n ∧ v30 = .int .i64 k ∧ Hid (TabKept W3 wr base tb T2 Tk) ∧ Hid (Tk.els[i]? = some xk) ∧ Hid (xk.R.rb = x.R.rb) ∧ Hid (xk.na = name) ∧ Hid (xk.ds.map Df.p = addDs (x.ds.map Df.p) ((ds.map Df.p).take k)) ∧ Hid (Tk.st = { T2.st with els := T2.st.els.set i (name, addDs (x.ds.map Df.p) ((ds.map Df.p).take k)) })) (fun v30 _ => n - (intOf v30).toNat)
  case atStart => exact ⟨0, T2, x, Nat.zero_le _, rfl, TR, HX, rfl, hxn, HX0, HX1⟩
  case round =>
    obtain ⟨k, Tk, xk, hk, rfl, HTK, HXK, HRB, HNA, HDS2, HST⟩ := hrel
    by_cases hlt : k < n
    · have hDr := HD.out.keep (K3.out.trans HTK.out).keep HO.out HOW.out
      obtain ⟨a, d, rfl, hdk, hcell, hwd⟩ := hDr.2 k hlt
      have hdm := List.mem_of_getElem? hdk
      obtain ⟨hdna, hdws⟩ := HDS.out d hdm
      have heb : wr.heap[w3.heap.size]? = some (.cells #[.string name, .pointer (some ⟨x.R.rb, 0, none⟩)] 74 (0, 0)) :=
        (HTK.out.keep.block w3.heap.size (by omega) (fun hf => Nat.lt_irrefl _ (HL2.out _ hf))).trans bx3
      have hbx : xk.ds.length ≤ 1048575 := by
        have h1 := congrArg List.length HDS2.out
        rw [List.length_map] at h1
        have h2 := addDs_len ((ds.map Df.p).take k) (x.ds.map Df.p)
        rw [List.length_map, List.length_take, List.length_map] at h2
        have h3 := HXL.out
        omega
      obtain ⟨⟨na, ki, ws, mo, va⟩, Ad, cd⟩ := d
      obtain ⟨hlt5, g0, g1, g2, g3, g4⟩ := hcell
      dsimp only at g0 g1 g2 g3 g4 hwd hdna hdws
      obtain ⟨W5, hW5, hsW5, hBW5, bx5⟩ := boxWorld wr #[.string na, .int .i64 ki, .slice Ad ws.length cd, .int .i64 mo, .string va] 82
      have b0 : (0 : Int) ≤ (k : Int) := by omega
      have b1 : (k : Int) < (n : Int) := by omega
      have HDK := Lib.hid hdk
      have EB := Lib.hid ((hBW5.block w3.heap.size (Array.getElem?_eq_some_iff.1 heb).1).trans heb)
      have DB := Lib.hid bx5
      have T5 := Lib.hid (HTK.out.trans (TabKept.refl HTK.out.tab hBW5))
      have CP := Lib.hid (fun V (hV : Below W5.heap.size W5 V) => copied_any ⟨⟨na, ki, ws, mo, va⟩, Ad, cd⟩ V ((hwd.below hBW5).below hV) hdws)
      have HS5 := Lib.hid hsW5
      clear hDr hdk hdm hwd heb bx5 hBW5 hlt5 hsW5
      go_upto_region 5 with (fail)
      clear hW5
      have e1 : W5.drew.cell? ⟨w3.heap.size, 1, none⟩ = some (.pointer (some ⟨x.R.rb, 0, none⟩)) := cellsOf_block EB.out rfl
      have y0 : W5.drew.cell? ⟨wr.heap.size, 0, none⟩ = some (.string na) := cellsOf_block DB.out rfl
      have y1 : W5.drew.cell? ⟨wr.heap.size, 1, none⟩ = some (.int .i64 ki) := cellsOf_block DB.out rfl
      have y2 : W5.drew.cell? ⟨wr.heap.size, 2, none⟩ = some (.slice Ad ws.length cd) := cellsOf_block DB.out rfl
      have y3 : W5.drew.cell? ⟨wr.heap.size, 3, none⟩ = some (.int .i64 mo) := cellsOf_block DB.out rfl
      have y4 : W5.drew.cell? ⟨wr.heap.size, 4, none⟩ = some (.string va) := cellsOf_block DB.out rfl
      refine wp_region_late [(6, fun V => V.cell? ⟨w3.heap.size, 1, none⟩ = some (.pointer (some ⟨x.R.rb, 0, none⟩)) ∧ V.cell? ⟨wr.heap.size, 0, none⟩ = some (.string na)), (5, fun V => V.cell? ⟨wr.heap.size, 0, none⟩ = some (.string na) ∧ V.cell? ⟨wr.heap.size, 1, none⟩ = some (.int .i64 ki) ∧ V.cell? ⟨wr.heap.size, 2, none⟩ = some (.slice Ad ws.length cd) ∧ V.cell? ⟨wr.heap.size, 3, none⟩ = some (.int .i64 mo) ∧ V.cell? ⟨wr.heap.size, 4, none⟩ = some (.string va))] (by kernel_rfl) ⟨.inr ⟨e1, y0⟩, .inr ⟨y0, y1, y2, y3, y4⟩, trivial⟩ (fun hC0 => ?_)
      --REG (*narthex/dtd.Table).list:5 0 1@0 2 3@0 4@1
      refine wpAnyL_pure (i := 0) (oi := ({ dst := some 34, op := Op.fieldAddr 74 (Operand.tmp 6) 1, type := 0, pos := "dtd.go:69", after := #[], guard := none } : Oper)) (v := ?_) rfl (by kernel_rfl) (by kernel_rfl) (by kernel_rfl) (by kernel_rfl) (fun _ _ _ h => h) (Or.inl ⟨by rfl, ?_⟩) (by assumption) (by kernel_rfl) ?_
      rotate_left 1
      · intro w hSw; clear hSw; go_simp; try with_reducible rfl
      (try simp only [Act.put, List.setIfInBounds_toArray, List.set_cons_zero, List.set_cons_succ])
      refine wpAnyL_take (i := 1) 0 (oi := ({ dst := some 35, op := Op.load 72 (Operand.tmp 34), type := 72, pos := "dtd.go:69", after := #[{ on := 0, ground := Ground.data }], guard := none } : Oper)) (v := ?_) rfl (by kernel_rfl) (by kernel_rfl) (by kernel_rfl) rfl (by kernel_rfl) (by kernel_rfl) (by kernel_rfl) (fun _ _ _ h => h) (Or.inl ⟨by rfl, ?_⟩) (by assumption) (by kernel_rfl) ?_
      rotate_left 1
      · intro w hSw; (try dsimp only at hSw); go_simp; try with_reducible rfl
      (try simp only [Act.put, List.setIfInBounds_toArray, List.set_cons_zero, List.set_cons_succ])
      refine wpAnyL_pure (i := 2) (oi := ({ dst := some 36, op := Op.fieldAddr 82 (Operand.tmp 9) 0, type := 0, pos := "dtd.go:69", after := #[], guard := none } : Oper)) (v := ?_) rfl (by kernel_rfl) (by kernel_rfl) (by kernel_rfl) (by kernel_rfl) (fun _ _ _ h => h) (Or.inl ⟨by rfl, ?_⟩) (by assumption) (by kernel_rfl) ?_
      rotate_left 1
      · intro w hSw; clear hSw; go_simp; try with_reducible rfl
      (try simp only [Act.put, List.setIfInBounds_toArray, List.set_cons_zero, List.set_cons_succ])
      refine wpAnyL_take (i := 3) 0 (oi := ({ dst := some 37, op := Op.load 9 (Operand.tmp 36), type := 9, pos := "dtd.go:69", after := #[{ on := 2, ground := Ground.data }], guard := none } : Oper)) (v := ?_) rfl (by kernel_rfl) (by kernel_rfl) (by kernel_rfl) rfl (by kernel_rfl) (by kernel_rfl) (by kernel_rfl) (fun _ _ _ h => h) (Or.inl ⟨by rfl, ?_⟩) (by assumption) (by kernel_rfl) ?_
      rotate_left 1
      · intro w hSw; (try dsimp only at hSw); go_simp; try with_reducible rfl
      (try simp only [Act.put, List.setIfInBounds_toArray, List.set_cons_zero, List.set_cons_succ])
      refine wpAnyL_take (i := 4) 1 (oi := ({ dst := some 38, op := Op.load 82 (Operand.tmp 9), type := 82, pos := "dtd.go:69", after := #[], guard := none } : Oper)) (v := ?_) rfl (by kernel_rfl) (by kernel_rfl) (by kernel_rfl) rfl (by kernel_rfl) (by kernel_rfl) (by kernel_rfl) (fun _ _ _ h => h) (Or.inl ⟨by rfl, ?_⟩) (by assumption) (by kernel_rfl) ?_
      rotate_left 1
      · intro w hSw; (try dsimp only at hSw); go_simp; try with_reducible rfl
      (try simp only [Act.put, List.setIfInBounds_toArray, List.set_cons_zero, List.set_cons_succ])
      --END
      refine wpAnyL_ready (rs := [5]) (by kernel_rfl) (by simp) ?_
      refine AllReadyL.cons (o := _) rfl (fun K hK => ?_) AllReadyL.nil
      go_simp
      refine (show Calls Tryd.prog 33 #[.agg #[.string na, .int .i64 ki, .slice Ad ws.length cd, .int .i64 mo, .string va]] W5.drew (CopTold ⟨na, ki, ws, mo, va⟩ W5.drew) from CP.out _ (Below.refl _ _).drew).mono ?_
      rintro e w6 ⟨dn, rfl, hdp, hwn, hB6⟩
      have HB6 := Lib.hid ((show Below W5.heap.size W5 W5.drew from (Below.refl _ W5).drew).trans hB6)
      have e1' := (HB6.out.cell (p := ⟨w3.heap.size, 1, none⟩) (Array.getElem?_eq_some_iff.1 EB.out).1).trans (cellsOf_block EB.out (j := 1) rfl)
      have y0' := (HB6.out.cell (p := ⟨wr.heap.size, 0, none⟩) (Array.getElem?_eq_some_iff.1 DB.out).1).trans (cellsOf_block DB.out (j := 0) rfl)
      have T6 := Lib.hid (T5.out.trans (TabKept.refl T5.out.tab HB6.out))
      have WN := Lib.hid hwn
      obtain ⟨⟨na', ki', ws', mo', va'⟩, An, cn⟩ := dn
      dsimp only at hdp
      injection hdp with hd1 hd2 hd3 hd4 hd5
      have hd1 := hd1.symm
      have hd2 := hd2.symm
      have hd3 := hd3.symm
      have hd4 := hd4.symm
      have hd5 := hd5.symm
      subst hd1 hd2 hd3 hd4 hd5
      refine hK.out _ _ ⟨.inr ⟨e1', y0'⟩, .inl (by rfl), trivial⟩ (fun hC1 => ?_)
      clear hK K hC0 hwn hB6 e1 y0 y1 y2 y3 y4
      (try simp only [Act.put, List.setIfInBounds_toArray, List.set_cons_zero, List.set_cons_succ])
      have hxm := List.mem_of_getElem? HXK.out
      have CA := addDf_any base xk.R (xk.ds.map (·.p.na)) (dfCells xk.ds) na na ki An ws.length cn mo va w6 (T6.out.tab.subs xk hxm) hdna (by rw [List.length_map]; omega) (Nat.le_trans hb (Nat.le_trans (K3.out.trans T6.out).keep.size (Nat.le_refl _)))
      rw [HRB.out] at CA
      have CA := Lib.hid CA
      dsimp only [Df.v]
      refine wpAnyL_ready (rs := [6]) (by kernel_rfl) (by simp) ?_
      refine AllReadyL.cons (o := _) rfl (fun K hK => ?_) AllReadyL.nil
      go_simp
      refine CA.out.mono ?_
      intro e w7 hadd
      have he := hadd.1
      subst he
      obtain ⟨T7, x7, hk7, hx7, hrb7, hna7, hds7, hst7⟩ := putSub T6.out.tab HXK.out ⟨⟨na, ki, ws, mo, va⟩, An, cn⟩ (own_lowerD WN.out (Nat.le_trans hb (K3.out.trans T5.out).keep.size)) hadd
      have K7 := Lib.hid (T6.out.trans hk7)
      have hdk2 : (ds.map Df.p)[k]? = some ⟨na, ki, ws, mo, va⟩ := by rw [List.getElem?_map, HDK.out]; rfl
      have hnx : x7.ds.map Df.p = addDs (x.ds.map Df.p) ((ds.map Df.p).take (k + 1)) := by rw [hds7, HDS2.out, addDs_next hdk2]
      have hsx : T7.st = { T2.st with els := T2.st.els.set i (name, addDs (x.ds.map Df.p) ((ds.map Df.p).take (k + 1))) } := by
        rw [hst7, HST.out, HNA.out, HDS2.out, addDs_next hdk2]
        simp
      have R1 := Lib.hid hx7
      have R2 := Lib.hid (hrb7.trans HRB.out)
      have R3 := Lib.hid (hna7.trans HNA.out)
      have R4 := Lib.hid hnx
      have R5 := Lib.hid hsx
      dsimp only
      refine hK.out _ _ ⟨.inl (by rfl), .inl (by rfl), trivial⟩ (fun hC2 => ?_)
      clear hK K hC1 hadd CA hk7 hx7 hrb7 hna7 hds7 hst7 hdk2 hnx hsx e1' y0' hxm
      (try simp only [Act.put, List.setIfInBounds_toArray, List.set_cons_zero, List.set_cons_succ])
      refine wpAnyL_done (by kernel_rfl) ?_ _
      clear hC2
      go_wp2
      go_roundw
      case rel => exact ⟨k + 1, T7, x7, by omega, by go_num, K7, R1, R2, R3, R4, R5⟩
      case measure => simp [intOf]; omega
    · obtain rfl : k = n := by omega
      have hE : T2.st.els = addBy (·.1) T.st.els (name, []) := by rw [ST2.out]
      have e : T2.st.els[i]? = some (name, x.ds.map Df.p) := by
        unfold Tm.st
        rw [List.getElem?_map, HX.out, Option.map_some, hxn]
      have hf : Tk.st = { T.st with els := addEl T.st.els name (ds.map Df.p) } := by
        rw [HST.out, List.take_of_length_le (by rw [List.length_map, HD.out.1]; exact Nat.le_refl _)]
        have e1 : T2.st.gens = T.st.gens := by rw [ST2.out]
        have e2 : T2.st.pars = T.st.pars := by rw [ST2.out]
        have e3 : T2.st.nots = T.st.nots := by rw [ST2.out]
        show TSt.mk T2.st.gens T2.st.pars T2.st.nots (T2.st.els.set i (name, addDs (x.ds.map Df.p) (ds.map Df.p))) = TSt.mk T.st.gens T.st.pars T.st.nots (addEl T.st.els name (ds.map Df.p))
        rw [e1, e2, e3]
        unfold addEl putEl
        rw [← hE, HI.out, List.getD_eq_getElem?_getD, e]
        rfl
      have hR := Lib.hid (show TabTold base tb T { T.st with els := addEl T.st.els name (ds.map Df.p) } (.tuple #[]) w (.returned (.tuple #[])) wr from ⟨rfl, Tk, K3.out.trans HTK.out, hf⟩)
      clear hE e hf
      go_wp2
      refine bodyPost_end (v := .tuple #[]) (by simp [results, Tryd.results42, go_sem]) rfl ?_
      exact hR.out
end Go.Proofs.YtapjmfgpdkghlaaDoor
