/- The reference's answers for layer 17: Defs. Conditions: at most 2^20 declarations, and of attributes in each. -/
import Derived.Test.YtapjmfgpdkghlaaDoorDtRefN
namespace Go.Proofs.YtapjmfgpdkghlaaDoor
open Go.RowKit Go.Maps
set_option linter.unusedVariables false
set_option linter.unusedSimpArgs false
def stepD (s : ByteArray) (l : List DfP) (d : DcP) : List DfP := if d.ki = 2 ∧ d.na = s then addDs l d.ds else l
def defsR (ds : List DcP) (s : ByteArray) : List DfP := ds.foldl (stepD s) []
/-- Attributes as the document has them, in a row of the call's own; their words are the argument's. -/
def TellRDf (ps : List DfP) (w : World) (e : Ending) (w' : World) : Prop := ∃ (ys : List Df) (A : Option Addr) (c : Nat), e = .returned (.slice A ys.length c) ∧ ys.map Df.p = ps ∧ w'.ownsRow w.heap.size 84 5 (.slice A ys.length c) ys.length (dfCells ys) ∧ (∀ y ∈ ys, TsAt w y.A y.p.ws.length y.p.ws) ∧ Below w.heap.size w w'
theorem stepD_len (s : ByteArray) (ds : List DcP) (hd : ∀ d ∈ ds, d.ds.length ≤ 1048576) : ∀ l : List DfP, (ds.foldl (stepD s) l).length ≤ l.length + ds.length * 1048576 := by
  induction ds with
  | nil => intro l; simp
  | cons d ds ih =>
    intro l
    have h1 := ih (fun e he => hd e (List.mem_cons_of_mem _ he)) (stepD s l d)
    have h2 : (stepD s l d).length ≤ l.length + 1048576 := by
      unfold stepD
      split
      · have h3 := addDs_len d.ds l
        have := hd d (List.mem_cons_self)
        omega
      · omega
    simp only [List.foldl_cons, List.length_cons]
    omega
theorem Tryd.infoDRf : (Tryd.prog.info? 84).map (fun i => (i.zero, i.size, i.bytes)) = some (some (.agg #[.string ⟨#[]⟩, .int .i64 0, .slice none 0 0, .int .i64 0, .string ⟨#[]⟩]), 5, 72) := by kernel_rfl
theorem addBy_yes {l : List DfP} {x : DfP} (h : hasT (l.map DfP.na) x.na = true) : addBy DfP.na l x = l := if_pos h
theorem addBy_no {l : List DfP} {x : DfP} (h : hasT (l.map DfP.na) x.na = false) : addBy DfP.na l x = l ++ [x] := if_neg (by rw [h]; decide)
set_option maxRecDepth 100000 in
set_option maxHeartbeats 8000000 in
theorem rdefs_any (A : Option Addr) (n c : Nat) (l : List Dc) (s : ByteArray) (w : World) (h : DcsAt w A n l) (hn : n ≤ 1048576) (hd : ∀ d ∈ l, d.ds.length ≤ 1048576) : Calls Tryd.prog 12 #[.slice A n c, .string s] w (TellRDf (defsR (l.map Dc.pl) s) w) := by
  obtain ⟨i0, hi0, hz0, hz1, hz2⟩ := info_partsD Tryd.infoDRf
  have DS := Lib.hid h
  have HD := Lib.hid hd
  clear h hd
  go_enter Tryd.func12, Tryd.ntmps12
  go_wp2
  go_loopw [5, 6] (fun o i wr => ∃ (k : Nat) (B : Option Addr) (cb : Nat) (ys : List Df), k ≤ n ∧ i = .int .i64 k ∧ o = .slice B ys.length cb ∧ Hid (ys.map Df.p = ((l.map Dc.pl).take k).foldl (stepD s) []) ∧ Hid (wr.ownsRow w.heap.size 84 5 (.slice B ys.length cb) ys.length (dfCells ys)) ∧ Hid (∀ y ∈ ys, TsAt w y.A y.p.ws.length y.p.ws) ∧ Hid (Below w.heap.size w wr)) (fun _ i _ => n - (intOf i).toNat)
  case atStart => exact ⟨0, none, 0, [], by omega, rfl, rfl, rfl, World.ownsRow_nil _ _ _ _, fun y hy => absurd hy List.not_mem_nil, Below.refl _ _⟩
  case round =>
    obtain ⟨k, B, cb, ys, hk, rfl, rfl, HY, HO, HW, HB⟩ := hrel
    by_cases hlt : k < n
    · obtain ⟨a, d, rfl, hx, g, hdf⟩ := DS.out.2 k hlt
      have HG := Lib.hid (fun V (hV : Below w.heap.size w V) => (⟨g.same hV.size (hV.block _ g.lt), hdf.below hV⟩ : DcCell V (a.add (k * 13)) d ∧ DfsAt V d.A d.ds.length d.ds))
      obtain ⟨_, g0, g1, g2, g3, g4, g5, g6, g7, g8, g9, g10, g11, g12⟩ := (HG.out wr HB.out).1
      have b0 : (0 : Int) ≤ (k : Int) := by omega
      have b1 : (k : Int) < (n : Int) := by omega
      have hdk : (l.map Dc.pl)[k]? = some d.pl := by rw [List.getElem?_map, hx]; rfl
      have hnext := foldl_next (stepD s) [] hdk
      have HDL := Lib.hid (HD.out d (List.mem_of_getElem? hx))
      have hyl : ys.length ≤ 1048576 * 1048576 := by
        have h1 := stepD_len s ((l.map Dc.pl).take k) (fun e he => by
          obtain ⟨f, hf, rfl⟩ := List.mem_map.1 (List.mem_of_mem_take he)
          have := HD.out f hf
          show (f.ds.map Df.p).length ≤ _
          rw [List.length_map]; exact this) []
        rw [← HY.out, List.length_map, List.length_take, List.length_map] at h1
        have h2 : min k l.length ≤ 1048576 := by omega
        have := Nat.mul_le_mul_right 1048576 h2
        simp only [List.length_nil] at h1
        omega
      clear g hdf
      by_cases h2 : d.ki = 2
      · by_cases hna : d.na = s
        · have HN := Lib.hid (show ((l.map Dc.pl).take (k + 1)).foldl (stepD s) [] = addDs (ys.map Df.p) (d.ds.map Df.p) by rw [hnext, ← HY.out]; unfold stepD; rw [if_pos ⟨h2, hna⟩]; rfl)
          have q : (d.na.toList == s.toList) = true := by rw [hna]; simp
          have BASE := Lib.hid hyl
          clear hnext hdk hx hna hyl
          go_wp2
          go_loopw [5, 7] (fun o i wx => ∃ (j : Nat) (B : Option Addr) (cb : Nat) (zs : List Df), j ≤ d.ds.length ∧ i = .int .i64 j ∧ o = .slice B zs.length cb ∧ Hid (zs.map Df.p = addDs (ys.map Df.p) ((d.ds.map Df.p).take j)) ∧ Hid (wx.ownsRow w.heap.size 84 5 (.slice B zs.length cb) zs.length (dfCells zs)) ∧ Hid (∀ y ∈ zs, TsAt w y.A y.p.ws.length y.p.ws) ∧ Hid (Below w.heap.size w wx)) (fun _ i _ => d.ds.length - (intOf i).toNat)
          case atStart => exact ⟨0, B, cb, ys, by omega, rfl, rfl, rfl, HO, HW, HB⟩
          case round =>
            clear g0 g1 g2 g3 g4 g5 g6 g7 g8 g9 g10 g11 g12
            clear HO HW HB
            obtain ⟨j, B, cb, zs, hj, rfl, rfl, HZ, HO, HW, HB⟩ := hrel
            obtain ⟨_, g0, g1, g2, g3, g4, g5, g6, g7, g8, g9, g10, g11, g12⟩ := (HG.out wr HB.out).1
            by_cases hltj : j < d.ds.length
            · obtain ⟨a2, x, hA2, hxx, gx, hwx⟩ := (HG.out wr HB.out).2.2 j hltj
              obtain ⟨_, x0, x1, x2, x3, x4⟩ := gx
              rw [hA2] at g9
              have hdl : (d.ds.length : Int) ≤ 1048576 := by have := HDL.out; omega
              have e0 : (0 : Int) ≤ (j : Int) := by omega
              have e1 : (j : Int) < (d.ds.length : Int) := by omega
              have hdx : (d.ds.map Df.p)[j]? = some x.p := by rw [List.getElem?_map, hxx]; rfl
              have HNX := Lib.hid (addDs_next (l := ys.map Df.p) hdx)
              have hzl : zs.length ≤ 1048576 * 1048576 + 1048576 := by
                have h1 := congrArg List.length HZ.out
                have h2 := addDs_len ((d.ds.map Df.p).take j) (ys.map Df.p)
                rw [List.length_map] at h1 h2
                rw [List.length_take, List.length_map] at h2
                have := BASE.out
                omega
              have OUT := Lib.hid (DfsAt.of_own HO.out (fun y hy => (HW.out y hy).below HB.out))
              have HZX : Hid (TsAt w x.A x.p.ws.length x.p.ws) := by
                obtain ⟨a5, x5, hA5, hx5, _, hw5⟩ := (HG.out w (Below.refl _ _)).2.2 j hltj
                rw [hxx] at hx5
                cases hx5
                exact hw5
              have HA2 := Lib.hid hA2
              clear hxx hwx hdx hA2
              have HZL : Hid (zs.length = zs.length) := rfl
              obtain ⟨m, hm⟩ : ∃ m, m = zs.length := ⟨_, rfl⟩
              rw [← hm] at HO OUT hzl ⊢
              have HM := Lib.hid hm
              clear hm HZL
              go_wp2
              go_loopw [8, 9] (fun v8 v9 wx => ∃ (r dd : Nat) (b : Bool), r ≤ m ∧ v9 = .int .i64 r ∧ b = hasT ((zs.map (·.p.na)).take r) x.p.na ∧ v8 = .bool b ∧ wx = wr.drewN dd) (fun _ v9 _ => m - (intOf v9).toNat)
              case atStart => exact ⟨0, 0, false, by omega, rfl, by simp [hasT], rfl, rfl⟩
              case round =>
                obtain ⟨r, dd, b, hr, rfl, hb, rfl, rfl⟩ := hrel
                have HBB := Lib.hid hb
                clear hb
                by_cases hltr : r < m
                · obtain ⟨a3, y, rfl, hy, gy, _⟩ := OUT.out.2 r hltr
                  obtain ⟨_, y0, _, _, _, _⟩ := gy
                  have f0 : (0 : Int) ≤ (r : Int) := by omega
                  have f1 : (r : Int) < (m : Int) := by omega
                  have HS := Lib.hid (hasT_take (s := x.p.na) (show (zs.map (·.p.na))[r]? = some y.p.na by rw [List.getElem?_map, hy]; rfl))
                  clear hy
                  cases b with
                  | true =>
                    have HN2 := Lib.hid (show true = hasT ((zs.map (·.p.na)).take (r + 1)) x.p.na by rw [HS.out, ← HBB.out]; rfl)
                    go_wp2_with fail
                    go_quiet (fail)
                    go_wp2
                    go_roundw
                    case rel => exact ⟨r + 1, _, true, by omega, by go_num, HN2.out, rfl, rfl⟩
                    case measure => simp [intOf]; omega
                  | false =>
                    by_cases hxy : y.p.na = x.p.na
                    · have HN2 := Lib.hid (show true = hasT ((zs.map (·.p.na)).take (r + 1)) x.p.na by rw [HS.out, ← HBB.out, decide_eq_true hxy]; rfl)
                      have q2 : (y.p.na.toList == x.p.na.toList) = true := by rw [hxy]; simp
                      clear hxy
                      go_wp2_with fail
                      go_quiet (fail)
                      go_wp2
                      go_roundw
                      case rel => exact ⟨r + 1, _, true, by omega, by go_num, HN2.out, rfl, rfl⟩
                      case measure => simp [intOf]; omega
                    · have HN2 := Lib.hid (show false = hasT ((zs.map (·.p.na)).take (r + 1)) x.p.na by rw [HS.out, ← HBB.out, decide_eq_false hxy]; rfl)
                      have q2 : (y.p.na.toList == x.p.na.toList) = false := strT_no hxy
                      clear hxy
                      go_wp2_with fail
                      go_quiet (fail)
                      go_wp2
                      go_roundw
                      case rel => exact ⟨r + 1, _, false, by omega, by go_num, HN2.out, rfl, rfl⟩
                      case measure => simp [intOf]; omega
                · obtain rfl : r = m := by omega
                  have hb2 : b = hasT (zs.map (·.p.na)) x.p.na := by
                    have := HBB.out
                    rwa [List.take_of_length_le (by rw [List.length_map, HM.out]; exact Nat.le_refl _)] at this
                  have hb3 : hasT ((zs.map Df.p).map DfP.na) x.p.na = b := by rw [List.map_map]; exact hb2.symm
                  have HBD := Lib.hid (below_drewN HB.out dd)
                  have HOD : Hid ((wr.drewN dd).ownsRow w.heap.size 84 5 (.slice B r cb) r (dfCells zs)) := Lib.hid (own_drewN HO.out dd)
                  cases b with
                  | true =>
                    have HZ2 := Lib.hid (show zs.map Df.p = addDs (ys.map Df.p) ((d.ds.map Df.p).take (j + 1)) by rw [HNX.out, ← HZ.out, addBy_yes hb3])
                    clear hb2 hb3
                    go_wp2
                    go_roundw
                    case rel => exact ⟨j + 1, B, cb, zs, by omega, by go_num, by rw [HM.out], HZ2, by show World.ownsRow _ _ _ _ _ _ _; rw [← HM.out]; exact HOD.out, HW, HBD⟩
                    case measure => simp [intOf]; omega
                  | false =>
                    have HZ2 := Lib.hid (show (zs ++ [x]).map Df.p = addDs (ys.map Df.p) ((d.ds.map Df.p).take (j + 1)) by rw [HNX.out, ← HZ.out, addBy_no hb3, List.map_append]; rfl)
                    have HW2 : Hid (∀ y ∈ zs ++ [x], TsAt w y.A y.p.ws.length y.p.ws) := by
                      intro y hy
                      rcases List.mem_append.1 hy with hy | hy
                      · exact HW.out y hy
                      · obtain rfl : y = x := by simpa using hy
                        exact HZX.out
                    clear hb2 hb3
                    go_upto_region 15 with (fail)
                    generalize (Value.slice B r cb) = v at *
                    have z2 := HBD.out.size
                    have z3 := HB.out.size
                    go_wp2_with (at_builtin; refine wpList_append_own_at _ rfl (.tmp 67) (.tmp 76) 33 rfl w.heap.size 84 i0 _ 5 72 Tryd.underlying33 hi0 hz0 hz1 hz2 rfl (by decide) _ _ _ rfl (HOD.out.alloc _) ⟨(wr.drewN dd).heap.size, 0, none⟩ 1 1 [.string x.p.na, .int .i64 x.p.ki, .slice x.A x.p.ws.length x.c, .int .i64 x.p.mo, .string x.p.va] rfl rfl (litCells _ _ _) ?k2 ?k3 ?k4 ?k5 ?_)
                    case k2 => intro u hu
                               simp only [List.mem_cons, List.not_mem_nil, or_false] at hu
                               rcases hu with rfl | rfl | rfl | rfl | rfl <;> rfl
                    case k3 => unfold maxLen; omega
                    case k4 => omega
                    case k5 => simp; omega
                    intro o' w7 hown' hgrow _ hblk
                    have HB7 := Lib.hid ((HBD.out.alloc z2 _).grown hgrow (by simp; omega) (fun g hg => (HOD.out.lt g hg).1))
                    obtain ⟨B7, c7, rfl, _⟩ := own_shapeD hown'
                    have HO7 : Hid (w7.ownsRow w.heap.size 84 5 (.slice B7 (zs ++ [x]).length c7) (zs ++ [x]).length (dfCells (zs ++ [x]))) := by
                      show w7.ownsRow _ _ _ _ _ _
                      rw [← dfCells_snoc, List.length_append, ← HM.out]; exact hown'
                    clear hown' hgrow hblk HO
                    go_wp2
                    go_roundw
                    case rel => exact ⟨j + 1, B7, c7, zs ++ [x], by omega, by go_num, by rw [List.length_append, ← HM.out]; rfl, HZ2, HO7, HW2, HB7⟩
                    case measure => simp [intOf]; omega
            · obtain rfl : j = d.ds.length := by omega
              have HY2 := Lib.hid (show zs.map Df.p = ((l.map Dc.pl).take (k + 1)).foldl (stepD s) [] by
                rw [HN.out, HZ.out, List.take_of_length_le (by rw [List.length_map]; exact Nat.le_refl _)])
              go_wp2
              go_roundw
              case rel => exact ⟨k + 1, B, cb, zs, by omega, by go_num, rfl, HY2, HO, HW, HB⟩
              case measure => simp [intOf]; omega
        · have HY2 := Lib.hid (show ys.map Df.p = ((l.map Dc.pl).take (k + 1)).foldl (stepD s) [] by rw [hnext, ← HY.out]; unfold stepD; rw [if_neg (fun h => hna h.2)])
          have q : (d.na.toList == s.toList) = false := strT_no hna
          clear hnext hdk hx hna
          go_wp2
          go_roundw
          case rel => exact ⟨k + 1, B, cb, ys, by omega, by go_num, rfl, HY2, HO, HW, HB⟩
          case measure => simp [intOf]; omega
      · have HY2 := Lib.hid (show ys.map Df.p = ((l.map Dc.pl).take (k + 1)).foldl (stepD s) [] by rw [hnext, ← HY.out]; unfold stepD; rw [if_neg (fun h => h2 h.1)])
        clear hnext hdk hx
        go_wp2
        go_roundw
        case rel => exact ⟨k + 1, B, cb, ys, by omega, by go_num, rfl, HY2, HO, HW, HB⟩
        case measure => simp [intOf]; omega
    · obtain rfl : k = n := by omega
      have e : ys.map Df.p = defsR (l.map Dc.pl) s := by
        have := HY.out
        rwa [List.take_of_length_le (by rw [List.length_map, DS.out.1]; exact Nat.le_refl _)] at this
      have E := Lib.hid e
      clear e
      go_wp2
      go_ret
      exact ⟨ys, B, cb, rfl, E.out, HO.out, HW.out, HB.out⟩
end Go.Proofs.YtapjmfgpdkghlaaDoor
