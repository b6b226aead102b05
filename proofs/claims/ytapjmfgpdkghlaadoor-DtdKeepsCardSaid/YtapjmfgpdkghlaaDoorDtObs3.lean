/- What a table of declarations tells: Len, Defs. Conditions: rows of at most 2^20. -/
import Derived.Test.YtapjmfgpdkghlaaDoorDtObs2
namespace Go.Proofs.YtapjmfgpdkghlaaDoor
open Go.RowKit Go.Maps
set_option linter.unusedVariables false
set_option linter.unusedSimpArgs false
variable {w : World} {base tb : Nat} {T : Tm}
def sumL (L : List Elm) : Nat := (L.map fun x => x.ds.length).sum
def lenM (T : Tm) : Nat := T.gens.length + T.pars.length + T.nots.length + sumL T.els
theorem sumL_next {L : List Elm} {k : Nat} {x : Elm} (h : L[k]? = some x) : sumL (L.take (k + 1)) = sumL (L.take k) + x.ds.length := by
  unfold sumL
  rw [List.take_add_one, h, List.map_append, List.sum_append]
  simp
theorem sumL_le (L : List Elm) (k : Nat) : sumL (L.take k) ≤ sumL L := by
  have h : sumL L = sumL (L.take k) + sumL (L.drop k) := by
    unfold sumL
    rw [← List.sum_append, ← List.map_append, List.take_append_drop]
  omega
def RetIB (n : Int) (w : World) (e : Ending) (w' : World) : Prop := e = .returned (.int .i64 n) ∧ Below w.heap.size w w'
theorem TabAt.subCell (h : TabAt w base tb T) {x : Elm} (hx : x ∈ T.els) : w.cell? ⟨x.R.rb, 1, none⟩ = some (.slice x.R.A x.ds.length x.R.c) := by
  have h1 := (h.subs x hx).blk.cell1
  rwa [List.length_map] at h1
set_option maxRecDepth 100000 in
set_option maxHeartbeats 4000000 in
theorem len_any (h : TabAt w base tb T) (hn : lenM T ≤ 1000000000) (hne : T.els.length ≤ 1048576) : Calls Tryd.prog 19 #[.pointer (some ⟨tb, 0, none⟩)] w (RetIB (lenM T) w) := by
  have HTB := Lib.hid h
  have E := Lib.hid h.elsAt
  have c0 := h.cell.1
  have c1 := h.cell.2.1
  have c2 := h.cell.2.2.1
  have c3 := h.cell.2.2.2
  have d0 := h.rows2.1
  have d1 := h.rows2.2.1
  have d2 := h.rows2.2.2.1
  have d3 := h.rows2.2.2.2
  have HN := Lib.hid hn
  generalize hEA : T.e.A = EA at E d3
  generalize hN : T.els.length = n at E d3 hne
  have hsz : T.gens.length + T.pars.length + T.nots.length ≤ 1000000000 := by unfold lenM at hn; omega
  generalize hg1 : T.gens.length = n1 at d0 hsz
  generalize hg2 : T.pars.length = n2 at d1 hsz
  generalize hg3 : T.nots.length = n3 at d2 hsz
  have HG1 := Lib.hid hg1
  have HG2 := Lib.hid hg2
  have HG3 := Lib.hid hg3
  have HNN := Lib.hid hN
  clear h hEA hN hn hg1 hg2 hg3
  go_enter Tryd.func19, Tryd.ntmps19
  go_wp2_with fail
  go_quiet (fail)
  go_wp2
  go_loopw [3, 42] (fun s i wr => ∃ (k m : Nat), k ≤ n ∧ i = .int .i64 k ∧ s = .int .i64 m ∧ Hid (m = n1 + n2 + n3 + sumL (T.els.take k)) ∧ Hid (Below w.heap.size w wr)) (fun _ i _ => n - (intOf i).toNat)
  case atStart => exact ⟨0, n1 + n2 + n3, by omega, rfl, by go_num, rfl, below_drewN (Below.refl _ w) nq⟩
  case round =>
    obtain ⟨k, m, hk, rfl, rfl, HM, HB⟩ := hrel
    by_cases hlt : k < n
    · obtain ⟨a, x, rfl, hx, g⟩ := (ElsAt.below (w := w) E.out HB.out).2 k hlt
      obtain ⟨_, g0, g1⟩ := g
      have hxm := List.mem_of_getElem? hx
      have r1 := (TabAt.below HTB.out HB.out).subCell hxm
      obtain ⟨W, hW, hsW, hBW, bx⟩ := boxWorld wr #[.string x.na, .pointer (some ⟨x.R.rb, 0, none⟩)] 74
      have b0 : (0 : Int) ≤ (k : Int) := by omega
      have b1 : (k : Int) < (n : Int) := by omega
      have r2 := (hBW.cell (p := ⟨x.R.rb, 1, none⟩) (World.block_lt_of_cell? _ _ r1)).trans r1
      have y1 := cellsOf_block bx (j := 1) rfl
      have hm2 := sumL_next hx
      have hle := sumL_le T.els (k + 1)
      have hsum : m + x.ds.length ≤ 1000000000 := by
        have := HM.out
        have := HN.out
        have := HG1.out
        have := HG2.out
        have := HG3.out
        unfold lenM at *
        omega
      have HM2 := Lib.hid (show m + x.ds.length = n1 + n2 + n3 + sumL (T.els.take (k + 1)) by have := HM.out; omega)
      have HB2 := Lib.hid (HB.out.trans (hBW.mono HB.out.size))
      clear hx hxm r1 hBW bx hsW hm2 hle
      go_upto_region 7 with (fail)
      clear hW
      go_wp2
      go_roundw
      case rel => exact ⟨k + 1, m + x.ds.length, by omega, by go_num, by go_num, HM2, HB2⟩
      case measure => simp [intOf]; omega
    · obtain rfl : k = n := by omega
      go_wp2
      go_ret
      have e : T.els.take k = T.els := List.take_of_length_le (by have := HNN.out; omega)
      have h1 := HM.out
      rw [e] at h1
      have h2 : m = lenM T := by
        unfold lenM
        have := HG1.out
        have := HG2.out
        have := HG3.out
        omega
      exact ⟨by rw [← h2]; rfl, HB.out⟩
def defsM (T : Tm) (s : ByteArray) : List Df := if hasT (T.els.map Elm.na) s = true then ((T.els[idxT (T.els.map Elm.na) s]?).map Elm.ds).getD [] else []
/-- Attributes in a row of the call's own, each with words of its own. -/
def TellDfs (ps : List DfP) (w : World) (e : Ending) (w' : World) : Prop := ∃ (ds : List Df) (A : Option Addr) (c : Nat), e = .returned (.slice A ds.length c) ∧ ds.map Df.p = ps ∧ w'.ownsRow w.heap.size 82 5 (.slice A ds.length c) ds.length (dfCells ds) ∧ (∀ d ∈ ds, WordsAt w' w.heap.size d) ∧ Below w.heap.size w w'
theorem TabAt.subDfs (h : TabAt w base tb T) {x : Elm} (hx : x ∈ T.els) : DfsAt w x.R.A x.ds.length x.ds := by
  have h1 := (h.subs x hx).row
  rw [List.length_map] at h1
  exact DfsAt.of_own h1 (fun d hd => TsAt.of_own (h.words x hx d hd))
theorem dfCells_snoc (l : List Df) (d : Df) : dfCells l ++ [.string d.p.na, .int .i64 d.p.ki, .slice d.A d.p.ws.length d.c, .int .i64 d.p.mo, .string d.p.va] = dfCells (l ++ [d]) := by
  unfold dfCells
  rw [List.flatMap_append]
  simp [Df.cells]
set_option maxRecDepth 100000 in
set_option maxHeartbeats 8000000 in
theorem defs_any (h : TabAt w base tb T) (s : ByteArray) (hs : s.size ≤ maxLen) (hne : T.els.length ≤ 1048576) (hds : ∀ x ∈ T.els, x.ds.length ≤ 1048576) (hws : ∀ x ∈ T.els, ∀ d ∈ x.ds, d.p.ws.length ≤ 1048576) :
    Calls Tryd.prog 11 #[.pointer (some ⟨tb, 0, none⟩), .string s] w (TellDfs ((defsM T s).map Df.p) w) := by
  obtain ⟨i0, hi0, hz0, hz1, hz2⟩ := info_partsD Tryd.infoDDf
  have c3 := h.cell.2.2.2
  have HTB := Lib.hid h
  cases hh : hasT (T.els.map Elm.na) s with
  | false =>
    have e : defsM T s = [] := if_neg (by rw [hh]; decide)
    have M := Lib.hid (miss_El base T.e _ _ s w h.els hs hh)
    rw [e]
    clear h hh e
    go_enter Tryd.func11, Tryd.ntmps11
    go_wp2_with fail
    refine M.out.mono ?_
    rintro e w1 ⟨rfl, hB⟩
    have HB := Lib.hid hB
    clear hB M
    go_wp2
    go_ret
    exact ⟨[], none, 0, rfl, rfl, World.ownsRow_nil _ _ _ _, fun d hd => absurd hd List.not_mem_nil, HB.out.alloc HB.out.size _⟩
  | true =>
    have hix := idxT_is hh
    obtain ⟨x, hx, hxn⟩ : ∃ x, T.els[idxT (T.els.map Elm.na) s]? = some x ∧ x.na = s := by
      rw [List.getElem?_map] at hix
      exact Option.map_eq_some_iff.1 hix
    have hxm := List.mem_of_getElem? hx
    have e : defsM T s = x.ds := by
      unfold defsM
      rw [if_pos hh, hx]; rfl
    have G := Lib.hid (getEl_any base T.e (T.els.map Elm.na) (elCells T.els) s s (some ⟨x.R.rb, 0, none⟩) w h.els hs (by rw [List.length_map]; exact hne) hh (by have := elCells_at hx; rw [hxn] at this; exact this))
    have D := Lib.hid (h.subDfs hxm)
    have r1 := h.subCell hxm
    have HLN := Lib.hid (hds x hxm)
    have HWS := Lib.hid (hws x hxm)
    rw [e]
    generalize x.ds = ds at *
    generalize x.R.A = XA at *
    generalize hn : ds.length = n at *
    have HNN := Lib.hid hn
    have hnn : n ≤ 1048576 := HLN.out
    clear h hh hix hx hxn e hxm hne hds hws hn
    go_enter Tryd.func11, Tryd.ntmps11
    go_wp2_with fail
    refine G.out.mono ?_
    rintro e w1 ⟨rfl, hB⟩
    obtain ⟨W, hW, hsW, hBW, bx⟩ := boxWorld w1 #[.string s, .pointer (some ⟨x.R.rb, 0, none⟩)] 74
    have hlt1 := World.block_lt_of_cell? _ _ r1
    have HB := Lib.hid (hB.trans (hBW.mono hB.size))
    have r2 := (HB.out.cell (p := ⟨x.R.rb, 1, none⟩) hlt1).trans r1
    have y1 := cellsOf_block bx (j := 1) rfl
    clear hB hBW bx hsW G hlt1 r1 c3
    go_upto_region 4 with (fail)
    clear hW
    go_wp2
    go_loopw [7, 29] (fun v i wr => ∃ (k : Nat) (v0 : Value) (ys : List Df), k ≤ n ∧ i = .int .i64 k ∧ v0 = v ∧ Hid (ys.map Df.p = (ds.map Df.p).take k) ∧ Hid (wr.ownsRow w.heap.size 82 5 v0 k (dfCells ys)) ∧ Hid (∀ d ∈ ys, WordsAt wr w.heap.size d) ∧ Hid (Below w.heap.size w wr)) (fun _ i _ => n - (intOf i).toNat)
    case atStart => exact ⟨0, _, [], by omega, rfl, rfl, rfl, World.ownsRow_nil _ _ _ _, fun d hd => absurd hd List.not_mem_nil, HB.out⟩
    case round =>
      obtain ⟨k, v, ys, hk, rfl, rfl, HY, HO, HWD, HB2⟩ := hrel
      by_cases hlt : k < n
      · obtain ⟨a, d, rfl, hdk, g, hwd⟩ := (DfsAt.below (w := w) D.out HB2.out).2 k hlt
        obtain ⟨_, g0, g1, g2, g3, g4⟩ := g
        have hdm := List.mem_of_getElem? hdk
        have hdw := HWS.out d hdm
        have HST := Lib.hid (show (ds.map Df.p).take (k + 1) = (ds.map Df.p).take k ++ [d.p] by rw [List.take_add_one, List.getElem?_map, hdk]; rfl)
        obtain ⟨W5, hW5, hsW5, hBW5, bx5⟩ := boxWorld wr #[.string d.p.na, .int .i64 d.p.ki, .slice d.A d.p.ws.length d.c, .int .i64 d.p.mo, .string d.p.va] 82
        have b0 : (0 : Int) ≤ (k : Int) := by omega
        have b1 : (k : Int) < (n : Int) := by omega
        have C := Lib.hid (copied_any d W5 (hwd.below hBW5) hdw)
        have HB5 := Lib.hid (HB2.out.trans (hBW5.mono HB2.out.size))
        have HO5 := Lib.hid (own_belowD HO.out hBW5)
        have HW5 := Lib.hid (fun e (he : e ∈ ys) => (HWD.out e he).below hBW5)
        have y0 := cellsOf_block bx5 (j := 0) rfl
        have y1' := cellsOf_block bx5 (j := 1) rfl
        have y2 := cellsOf_block bx5 (j := 2) rfl
        have y3 := cellsOf_block bx5 (j := 3) rfl
        have y4 := cellsOf_block bx5 (j := 4) rfl
        have hyk : ys.length = k := by
          have h1 := congrArg List.length HY.out
          rw [List.length_map, List.length_take, List.length_map, HNN.out] at h1
          omega
        have HYK := Lib.hid hyk
        clear hdk hdm hdw hwd hBW5 bx5 hsW5 hyk HO
        go_upto_region 10 with (fail)
        clear hW5
        go_wp2_with fail
        refine C.out.mono ?_
        rintro e w6 ⟨dn, rfl, hdp, hwn, hB6⟩
        have HDP := Lib.hid hdp
        have HB6 := Lib.hid (HB5.out.trans (hB6.mono HB5.out.size))
        have HO6 := Lib.hid (own_belowD HO5.out hB6)
        have HWN := Lib.hid (own_lowerD hwn HB5.out.size)
        have HW6 := Lib.hid (fun e (he : e ∈ ys) => (HW5.out e he).below hB6)
        have z1 := HB6.out.size
        clear hdp hwn hB6 C HB5 HO5 HW5 y0 y1' y2 y3 y4
        dsimp only [Df.v]
        go_wp2_with (at_builtin; refine wpList_append_own_at _ rfl (.tmp 33) (.tmp 36) 31 rfl w.heap.size 82 i0 (.agg #[.string ⟨#[]⟩, .int .i64 0, .slice none 0 0, .int .i64 0, .string ⟨#[]⟩]) 5 72 Tryd.underlying31 hi0 hz0 hz1 hz2 rfl (by decide) _ _ _ rfl (HO6.out.alloc _) ⟨w6.heap.size, 0, none⟩ 1 1 [.string dn.p.na, .int .i64 dn.p.ki, .slice dn.A dn.p.ws.length dn.c, .int .i64 dn.p.mo, .string dn.p.va] rfl rfl (litCells _ _ _) ?k2 ?k3 ?k4 ?k5 ?_)
        case k2 => intro u hu
                   simp only [List.mem_cons, List.not_mem_nil, or_false] at hu
                   rcases hu with rfl | rfl | rfl | rfl | rfl <;> rfl
        case k3 => unfold maxLen; omega
        case k4 => omega
        case k5 => simp; omega
        intro o' w7 hown' hgrow _ hblk
        have HB7 := Lib.hid ((HB6.out.alloc z1 _).grown hgrow (by simp; omega) (fun g hg => (HO6.out.lt g hg).1))
        have hKG : KeepG (w6.alloc (.cells #[.string dn.p.na, .int .i64 dn.p.ki, .slice dn.A dn.p.ws.length dn.c, .int .i64 dn.p.mo, .string dn.p.va] 82)) w7 (fun j => v.ownBlock = some j) := KeepG.of_grown hgrow _ (fun j hj _ => hj)
        have hAL : Below w6.heap.size w6 (w6.alloc (.cells #[.string dn.p.na, .int .i64 dn.p.ki, .slice dn.A dn.p.ws.length dn.c, .int .i64 dn.p.mo, .string dn.p.va] 82)) := (Below.refl _ _).alloc (Nat.le_refl _) _
        have hoff : ∀ j cs f, (w6.alloc (.cells #[.string dn.p.na, .int .i64 dn.p.ki, .slice dn.A dn.p.ws.length dn.c, .int .i64 dn.p.mo, .string dn.p.va] 82)).heap[j]? = some (.cells cs 9 f) → ¬ v.ownBlock = some j := fun j cs f hj hv => by
          obtain ⟨_, _, cs2, hh⟩ := own_blk (own_belowD HO6.out hAL) hv
          rw [hh] at hj
          injection hj with hj
          injection hj with _ hj _
          exact absurd hj (by decide)
        have HW7 : Hid (∀ d ∈ ys ++ [dn], WordsAt w7 w.heap.size d) := by
          intro e he
          rcases List.mem_append.1 he with he | he
          · exact ((HW6.out e he).below hAL).keep hKG hoff
          · obtain rfl : e = dn := by simpa using he
            exact (WordsAt.below (show WordsAt w6 w.heap.size e from HWN.out) hAL).keep hKG hoff
        have HO7 : Hid (w7.ownsRow w.heap.size 82 5 o' (k + 1) (dfCells (ys ++ [dn]))) := by
          show w7.ownsRow _ _ _ _ _ _
          rw [← dfCells_snoc]; exact hown'
        have HY7 : Hid ((ys ++ [dn]).map Df.p = (ds.map Df.p).take (k + 1)) := by
          show _ = _
          rw [HST.out, List.map_append, HY.out, List.map_cons, HDP.out]; rfl
        clear hown' hgrow hblk hKG hAL hoff HB6 HO6 HW6 HWN
        go_wp2
        go_roundw
        case rel => exact ⟨k + 1, o', ys ++ [dn], by omega, by go_num, rfl, HY7, HO7, HW7, HB7⟩
        case measure => simp [intOf]; omega
      · obtain rfl : k = n := by omega
        obtain ⟨A, c, hv, _⟩ := own_shapeD HO.out
        subst hv
        have e1 : ys.map Df.p = ds.map Df.p := by
          have := HY.out
          rwa [List.take_of_length_le (by rw [List.length_map, HNN.out]; exact Nat.le_refl _)] at this
        have e2 : ys.length = k := by
          have := congrArg List.length e1
          rw [List.length_map, List.length_map, HNN.out] at this
          exact this
        have E1 := Lib.hid e1
        have E2 := Lib.hid e2
        clear e1 e2
        go_wp2
        go_ret
        exact ⟨ys, A, c, by rw [E2.out]; rfl, E1.out, by rw [E2.out]; exact HO.out, HWD.out, HB2.out⟩
end Go.Proofs.YtapjmfgpdkghlaaDoor
