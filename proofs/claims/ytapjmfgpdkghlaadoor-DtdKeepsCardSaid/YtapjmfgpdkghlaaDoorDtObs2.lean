/- What a table of declarations tells: Notation, Elements, Len. Conditions: rows of at most 2^20. -/
import Derived.Test.YtapjmfgpdkghlaaDoorDtObs
namespace Go.Proofs.YtapjmfgpdkghlaaDoor
open Go.RowKit Go.Maps
set_option linter.unusedVariables false
set_option linter.unusedSimpArgs false
variable {w : World} {base tb : Nat} {T : Tm}
/-- A notation's identifier. -/
def findN (l : List Nt) (s : ByteArray) : ByteArray × ByteArray := if hasT (l.map (·.1)) s = true then (l.getD (idxT (l.map (·.1)) s) (s, ⟨#[]⟩, ⟨#[]⟩)).2 else (⟨#[]⟩, ⟨#[]⟩)
def TellN (l : List Nt) (s : ByteArray) (w : World) (e : Ending) (w' : World) : Prop := e = .returned (.tuple #[.agg #[.string (findN l s).1, .string (findN l s).2], .bool (hasT (l.map (·.1)) s)]) ∧ Below w.heap.size w w'
theorem getN_any (R : Rm) (l : List Nt) (s : ByteArray) (h : RowAt w base 91 44 2 R (l.map (·.1)) (ntCells l)) (hs : s.size ≤ maxLen) (hl : l.length ≤ 1048576) :
    Calls Tryd.prog 38 #[.pointer (some ⟨R.rb, 0, none⟩), .string s] w (TellN l s w) := by
  cases hh : hasT (l.map (·.1)) s with
  | false =>
    have e : findN l s = (⟨#[]⟩, ⟨#[]⟩) := if_neg (by rw [hh]; decide)
    refine (miss_Ex base R _ _ s w h hs hh).mono ?_
    rintro e w' ⟨rfl, hB⟩
    exact ⟨by rw [e, hh], hB⟩
  | true =>
    have hlt := idxT_lt hh
    rw [List.length_map] at hlt
    have e : findN l s = (l[idxT (l.map (·.1)) s]).2 := by
      unfold findN
      rw [if_pos hh, List.getD_eq_getElem?_getD, List.getElem?_eq_getElem hlt]; rfl
    refine (getEx_any base R _ _ s (findN l s).1 (findN l s).2 w h hs (by rw [List.length_map]; exact hl) hh (fun j u hj => ?_)).mono ?_
    · rw [e] at hj
      exact flat_at (fun x : Nt => [Value.string x.2.1, .string x.2.2]) 2 (fun _ => rfl) l _ _ j u (List.getElem?_eq_getElem hlt) hj
    · rintro e w' ⟨rfl, hB⟩
      exact ⟨by rw [hh], hB⟩
set_option maxHeartbeats 2000000 in
theorem notation_any (h : TabAt w base tb T) (s : ByteArray) (hs : s.size ≤ maxLen) (hn : T.nots.length ≤ 1048576) : Calls Tryd.prog 24 #[.pointer (some ⟨tb, 0, none⟩), .string s] w (TellN T.nots s w) := by
  obtain ⟨W, hW, hsW, hBW, bx⟩ := boxWorld w #[.string ⟨#[]⟩, .string ⟨#[]⟩] 44
  have hT := h.below hBW
  have C := Lib.hid (getN_any T.n T.nots s hT.nots hs hn)
  have c0 := hT.cell.2.2.1
  have BX := Lib.hid bx
  have HBW := Lib.hid hBW
  clear h hT bx hBW hs hn
  go_enter Tryd.func24, Tryd.ntmps24
  go_upto_region 1 with (fail)
  clear hW
  go_wp2_with fail
  refine C.out.mono ?_
  rintro e w1 ⟨rfl, hB⟩
  have b1 := (hB.block w.heap.size (Array.getElem?_eq_some_iff.1 BX.out).1).trans BX.out
  have HB := Lib.hid (HBW.out.trans (hB.mono HBW.out.size))
  have B1 := Lib.hid b1
  have y0 := cellsOf_block b1 (j := 0) rfl
  have m0 := Lib.frozen_of_heap b1 0
  have y1 := cellsOf_block b1 (j := 1) rfl
  have m1 := Lib.frozen_of_heap b1 1
  clear hB C b1 c0
  generalize hE0 : findN T.nots s = E
  generalize hO0 : hasT (T.nots.map (·.1)) s = ok
  have HE := Lib.hid hE0
  have HO := Lib.hid hO0
  clear hE0 hO0
  obtain ⟨ea, eb⟩ := E
  dsimp only
  go_wp2
  have hV : ((w1.setCell ⟨w.heap.size, 0, none⟩ (.string ea)).setCell ⟨w.heap.size, 1, none⟩ (.string eb)).heap[w.heap.size]? = some (.cells #[.string ea, .string eb] 44 (0, 0)) := by simpa using (Go.Joins.block_setCell (Go.Joins.block_setCell B1.out (.string ea) (i := 0)) (.string eb) (i := 1))
  have hE : Below w.heap.size w ((w1.setCell ⟨w.heap.size, 0, none⟩ (.string ea)).setCell ⟨w.heap.size, 1, none⟩ (.string eb)) := (HB.out.setCell (p := ⟨w.heap.size, 0, none⟩) (Nat.le_refl _) (.string ea)).setCell (p := ⟨w.heap.size, 1, none⟩) (Nat.le_refl _) (.string eb)
  generalize (w1.setCell ⟨w.heap.size, 0, none⟩ (.string ea)).setCell ⟨w.heap.size, 1, none⟩ (.string eb) = V at hV hE ⊢
  have d0 := cellsOf_block hV (j := 0) rfl
  have d1 := cellsOf_block hV (j := 1) rfl
  refine bodyPost_ret (v := .tuple #[.agg #[.string ea, .string eb], .bool ok]) (by simp [results, Tryd.results24, go_sem, d0, d1]) rfl ?_
  unfold TellN
  rw [HE.out, HO.out]
  exact ⟨rfl, hE⟩
def NoneNotation (w : World) (e : Ending) (w' : World) : Prop := e = .returned (.tuple #[.agg #[.string ⟨#[]⟩, .string ⟨#[]⟩], .bool false]) ∧ Below w.heap.size w w'
theorem notation_nil (s : ByteArray) (w : World) : Calls Tryd.prog 24 #[.pointer none, .string s] w (NoneNotation w) := by
  obtain ⟨W, hW, hsW, hBW, bx⟩ := boxWorld w #[.string ⟨#[]⟩, .string ⟨#[]⟩] 44
  have B1 := Lib.hid bx
  have HB := Lib.hid hBW
  have y0 := cellsOf_block bx (j := 0) rfl
  have m0 := Lib.frozen_of_heap bx 0
  have y1 := cellsOf_block bx (j := 1) rfl
  have m1 := Lib.frozen_of_heap bx 1
  clear bx hBW
  go_enter Tryd.func24, Tryd.ntmps24
  go_upto_region 1 with (fail)
  clear hW
  go_wp2
  have hV : ((W.setCell ⟨w.heap.size, 0, none⟩ (.string ⟨#[]⟩)).setCell ⟨w.heap.size, 1, none⟩ (.string ⟨#[]⟩)).heap[w.heap.size]? = some (.cells #[.string ⟨#[]⟩, .string ⟨#[]⟩] 44 (0, 0)) := by simpa using (Go.Joins.block_setCell (Go.Joins.block_setCell B1.out (.string ⟨#[]⟩) (i := 0)) (.string ⟨#[]⟩) (i := 1))
  have hE : Below w.heap.size w ((W.setCell ⟨w.heap.size, 0, none⟩ (.string ⟨#[]⟩)).setCell ⟨w.heap.size, 1, none⟩ (.string ⟨#[]⟩)) := (HB.out.setCell (p := ⟨w.heap.size, 0, none⟩) (Nat.le_refl _) (.string ⟨#[]⟩)).setCell (p := ⟨w.heap.size, 1, none⟩) (Nat.le_refl _) (.string ⟨#[]⟩)
  generalize (W.setCell ⟨w.heap.size, 0, none⟩ (.string ⟨#[]⟩)).setCell ⟨w.heap.size, 1, none⟩ (.string ⟨#[]⟩) = V at hV hE ⊢
  have d0 := cellsOf_block hV (j := 0) rfl
  have d1 := cellsOf_block hV (j := 1) rfl
  refine bodyPost_ret (v := .tuple #[.agg #[.string ⟨#[]⟩, .string ⟨#[]⟩], .bool false]) (by simp [results, Tryd.results24, go_sem, d0, d1]) rfl ?_
  exact ⟨rfl, hE⟩
def RetV (v : Value) (w : World) (e : Ending) (w' : World) : Prop := e = .returned v ∧ w = w'
theorem generals_nil (w : World) : Calls Tryd.prog 15 #[.pointer none] w (RetV (.slice none 0 0) w) := by
  go_enter Tryd.func15, Tryd.ntmps15
  go_wp2
  go_ret
  exact ⟨rfl, rfl⟩
theorem params_nil (w : World) : Calls Tryd.prog 17 #[.pointer none] w (RetV (.slice none 0 0) w) := by
  go_enter Tryd.func17, Tryd.ntmps17
  go_wp2
  go_ret
  exact ⟨rfl, rfl⟩
theorem elements_nil (w : World) : Calls Tryd.prog 9 #[.pointer none] w (RetV (.slice none 0 0) w) := by
  go_enter Tryd.func9, Tryd.ntmps9
  go_wp2
  go_ret
  exact ⟨rfl, rfl⟩
theorem defs_nil (s : ByteArray) (w : World) : Calls Tryd.prog 11 #[.pointer none, .string s] w (RetV (.slice none 0 0) w) := by
  go_enter Tryd.func11, Tryd.ntmps11
  go_wp2
  go_ret
  exact ⟨rfl, rfl⟩
theorem len_nil (w : World) : Calls Tryd.prog 19 #[.pointer none] w (RetV (.int .i64 0) w) := by
  go_enter Tryd.func19, Tryd.ntmps19
  go_wp2
  go_ret
  exact ⟨rfl, rfl⟩
structure ElCell (w : World) (a : Addr) (x : Elm) : Prop where
  lt : a.block < w.heap.size
  c0 : w.cell? a = some (.string x.na)
  c1 : w.cell? ⟨a.block, a.off + 1, none⟩ = some (.pointer (some ⟨x.R.rb, 0, none⟩))
def ElsAt (w : World) (A : Option Addr) (n : Nat) (es : List Elm) : Prop := es.length = n ∧ ∀ i, i < n → ∃ a x, A = some a ∧ es[i]? = some x ∧ ElCell w (a.add (i * 2)) x
theorem ElCell.same {w w' : World} {a : Addr} {d : Elm} (h : ElCell w a d) (hs : w.heap.size ≤ w'.heap.size) (hb : w'.heap[a.block]? = w.heap[a.block]?) : ElCell w' a d :=
  ⟨Nat.lt_of_lt_of_le h.lt hs, (World.cell?_of_block hb).trans h.c0, (World.cell?_of_block (a := ⟨a.block, _, none⟩) hb).trans h.c1⟩
theorem ElsAt.below {w w' : World} {A : Option Addr} {n : Nat} {es : List Elm} (h : ElsAt w A n es) (hb : Below w.heap.size w w') : ElsAt w' A n es :=
  ⟨h.1, fun i hi => by
    obtain ⟨a, d, h1, h2, h3⟩ := h.2 i hi
    exact ⟨a, d, h1, h2, h3.same hb.size (hb.block _ h3.lt)⟩⟩
theorem TabAt.elsAt (h : TabAt w base tb T) : ElsAt w T.e.A T.els.length T.els := by
  refine ⟨rfl, fun i hi => ?_⟩
  have hr := h.els.row
  rw [List.length_map] at hr
  obtain ⟨g, hA⟩ := row_base hr (by omega)
  have hx : T.els[i]? = some T.els[i] := List.getElem?_eq_getElem hi
  refine ⟨_, _, hA, hx, ?_⟩
  rw [hA] at hr
  have hc : ∀ j u, [Value.string T.els[i].na, .pointer (some ⟨T.els[i].R.rb, 0, none⟩)][j]? = some u → w.cell? ⟨g, i * 2 + j, none⟩ = some u := fun j u hj => by
    have h2 := elCells_at hx j u hj
    rw [hr.cellAt _ (by have h3 := (List.getElem?_eq_some_iff.1 h2).1; have h4 := hr.1; omega)]
    exact h2
  rw [addD]
  exact ⟨(hr.lt g rfl).2, hc 0 _ rfl, hc 1 _ rfl⟩
theorem own_belowD {w w' : World} {base : Nat} {e : TypeId} {size : Nat} {v : Value} {n : Nat} {xs : List Value} (h : w.ownsRow base e size v n xs) (hb : Below w.heap.size w w') : w'.ownsRow base e size v n xs := own_same h (fun b hv => hb.block b (own_blk h hv).1)
theorem txt_snoc (l : List ByteArray) (x : ByteArray) : txtCells l ++ [.string x] = txtCells (l ++ [x]) := by simp [txtCells]
set_option maxRecDepth 100000 in
set_option maxHeartbeats 2000000 in
theorem elements_any (h : TabAt w base tb T) (hn : T.els.length ≤ 1048576) : Calls Tryd.prog 9 #[.pointer (some ⟨tb, 0, none⟩)] w (TellRowD (T.els.map Elm.na) w) := by
  obtain ⟨i0, hi0, hz0, hz1, hz2⟩ := info_partsD Tryd.infoStrF
  have E := Lib.hid h.elsAt
  have c0 := h.cell.2.2.2
  have c1 := h.rows2.2.2.2
  generalize T.e.A = EA at *
  generalize T.e.rb = eb at *
  generalize T.e.c = ec at *
  generalize hL : T.els = L at *
  generalize hN : L.length = n at *
  clear h hL
  go_enter Tryd.func9, Tryd.ntmps9
  go_wp2
  go_loopw [3, 16] (fun v i wr => ∃ (k : Nat) (v0 : Value), k ≤ n ∧ i = .int .i64 k ∧ v = v0 ∧ Hid (wr.ownsRow w.heap.size 9 1 v0 k (txtCells ((L.map Elm.na).take k))) ∧ Hid (Below w.heap.size w wr)) (fun _ i _ => n - (intOf i).toNat)
  case atStart => exact ⟨0, _, by omega, rfl, rfl, World.ownsRow_nil _ _ _ _, Below.refl _ _⟩
  case round =>
    obtain ⟨k, v, hk, rfl, rfl, HO, HB⟩ := hrel
    by_cases hlt : k < n
    · obtain ⟨a, x, rfl, hx, g⟩ := (ElsAt.below E.out HB.out).2 k hlt
      obtain ⟨_, g0, g1⟩ := g
      obtain ⟨W, hW, hsW, hBW, bx⟩ := boxWorld wr #[.string x.na, .pointer (some ⟨x.R.rb, 0, none⟩)] 74
      have b0 : (0 : Int) ≤ (k : Int) := by omega
      have b1 : (k : Int) < (n : Int) := by omega
      have HX := Lib.hid (show (L.map Elm.na).take (k + 1) = (L.map Elm.na).take k ++ [x.na] by rw [List.take_add_one, List.getElem?_map, hx]; rfl)
      have HOW := Lib.hid (own_belowD HO.out hBW)
      have HBW := Lib.hid (HB.out.trans (hBW.mono HB.out.size))
      have y0 := cellsOf_block bx (j := 0) rfl
      have HW := Lib.hid hBW
      have z1 := HBW.out.size
      clear hx hBW bx HO hsW
      go_upto_region 7 with (fail)
      clear hW
      go_wp2_with (at_builtin; refine wpList_append_own_at _ rfl (.tmp 20) (.tmp 23) 28 rfl w.heap.size 9 i0 (.string ⟨#[]⟩) 1 16 Tryd.underlying28 hi0 hz0 hz1 hz2 rfl (by decide) _ _ _ rfl (HOW.out.alloc _) ⟨W.heap.size, 0, none⟩ 1 1 [.string x.na] rfl rfl (litCells _ _ _) ?k2 ?k3 ?k4 ?k5 ?_)
      case k2 => intro u hu; obtain rfl : u = .string x.na := by simpa using hu
                 rfl
      case k3 => unfold maxLen; omega
      case k4 => omega
      case k5 => simp; omega
      intro o' w7 hown' hgrow _ hblk
      have HB7 := Lib.hid ((HBW.out.alloc z1 _).grown hgrow (by simp; omega) (fun g hg => (HOW.out.lt g hg).1))
      have HO7 : Hid (w7.ownsRow w.heap.size 9 1 o' (k + 1) (txtCells ((L.map Elm.na).take (k + 1)))) := by
        show w7.ownsRow _ _ _ _ _ _
        rw [HX.out, ← txt_snoc]; exact hown'
      clear hown' hgrow hblk HOW HBW HW
      go_wp2
      go_roundw
      case rel => exact ⟨k + 1, o', by omega, by go_num, rfl, HO7, HB7⟩
      case measure => simp [intOf]; omega
    · obtain rfl : k = n := by omega
      obtain ⟨A, c, hv, _⟩ := own_shapeD HO.out
      subst hv
      go_wp2
      go_ret
      have e : (L.map Elm.na).take k = L.map Elm.na := List.take_of_length_le (by rw [List.length_map, hN]; exact Nat.le_refl _)
      have hO := HO.out
      rw [e] at hO
      exact ⟨A, c, by rw [List.length_map, hN]; rfl, by rw [List.length_map, hN]; exact hO, HB.out⟩
end Go.Proofs.YtapjmfgpdkghlaaDoor
