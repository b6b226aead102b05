/- The contract of narthexref21.Dots: a path without steps that go nowhere. Conditions: at most 2^20 bytes. -/
import Derived.Test.YtkneafpmgbgalaaGreatDoorUriRParts
namespace Go.Proofs.YtkneafpmgbgalaaGreatDoor
open Go.RowKit Go.Proofs.YtkneafpmgbgalaaGreatDoor.CharsPlain Go.Proofs.YtkneafpmgbgalaaGreatDoor.UriPlain
set_option linter.unusedVariables false
set_option linter.unusedSimpArgs false
/-- Each behind a slash. -/
def flS (ps : List (List UInt8)) : List UInt8 := ps.flatMap (47 :: ·)
theorem flS_take (ps : List (List UInt8)) (k : Nat) (p : List UInt8) (h : ps[k]? = some p) : flS (ps.take (k + 1)) = flS (ps.take k) ++ 47 :: p := by
  unfold flS
  rw [List.take_add_one, h]
  simp
theorem flS_join : ∀ ps : List (List UInt8), ps ≠ [] → flS ps = 47 :: joinS ps
  | [], h => absurd rfl h
  | [p], _ => by simp [flS, joinS]
  | p :: q :: r, _ => by
    have h := flS_join (q :: r) (by simp)
    show 47 :: p ++ flS (q :: r) = _
    rw [h]; simp [joinS]
theorem flS_size (ps : List (List UInt8)) : (flS ps).length = (ps.map (·.length + 1)).sum := by
  unfold flS
  induction ps with
  | nil => rfl
  | cons p r ih => rw [List.flatMap_cons, List.length_append, ih]; simp
theorem flS_take_size (ps : List (List UInt8)) (k : Nat) : (flS (ps.take k)).length ≤ (flS ps).length := by
  have : flS ps = flS (ps.take k) ++ flS (ps.drop k) := by unfold flS; rw [← List.flatMap_append, List.take_append_drop]
  rw [this, List.length_append]; omega
theorem strs_cell {w : World} {B g o c n : Nat} {ps : List (List UInt8)} (h : w.ownsRow B 9 1 (.slice (some ⟨g, o, none⟩) n c) n (strs ps)) : o = 0 ∧ B ≤ g ∧ g < w.heap.size ∧ n = ps.length ∧ n ≤ c ∧ c ≤ maxLen ∧ ∀ j p, ps[j]? = some p → w.cell? ⟨g, j, none⟩ = some (sv p) := by
  have hl := h.1
  have hn : n = ps.length := by unfold strs at hl; rw [List.length_map] at hl; omega
  rcases h.2 with ⟨h1, _⟩ | ⟨g', cap, cur, hv, hb, hh, hle, hm, hcs, ht⟩
  · cases h1
  · cases hv
    have hlt := (Array.getElem?_eq_some_iff.1 hh).1
    refine ⟨rfl, hb, hlt, hn, hle, by omega, fun j p hj => ?_⟩
    have h1 : (strs ps)[j]? = some (sv p) := by unfold strs; rw [List.getElem?_map, hj]; rfl
    rw [← ht, List.getElem?_take] at h1
    split at h1
    · rw [Lib.cell_of_heap hh]
      simpa using h1
    · cases h1
theorem row_cutS {w : World} {base n c : Nat} {e : TypeId} {A : Option Addr} {xs : List Value} {x : Value} (h : w.ownsRow base e 1 (.slice A (n + 1) c) (n + 1) (xs ++ [x])) : w.ownsRow base e 1 (.slice A n c) n xs := by
  have hl := h.1
  rw [List.length_append] at hl
  simp at hl
  refine ⟨by omega, ?_⟩
  rcases h.2 with ⟨h1, h2⟩ | ⟨g, cap, cur, hv, hg, hh, hle, hm, hcs, ht⟩
  · omega
  · cases hv
    refine .inr ⟨g, c, cur, rfl, hg, hh, by omega, hm, hcs, ?_⟩
    have e1 : cur.toList.take (n * 1) = (cur.toList.take ((n + 1) * 1)).take n := by rw [List.take_take]; congr 1; omega
    rw [e1, ht, List.take_append_of_le_length (by omega), List.take_of_length_le (by omega)]
set_option maxRecDepth 100000 in
set_option maxHeartbeats 4000000 in
theorem rdots_any (s : ByteArray) (w : World) (hs : s.size ≤ 1048576) : Calls Tryz.prog 54 #[.string s] w (TellS (bS (dotsL s.data.toList)) w) := by
  obtain ⟨ps, hps⟩ : ∃ ps, ps = splitS (trimS s.data.toList) := ⟨_, rfl⟩
  have C0 := Lib.hid (rparts_any s w hs)
  rw [← hps] at C0
  have htl : (trimS s.data.toList).length ≤ s.size := by
    rw [← len3 s]
    generalize s.data.toList = l
    cases l with
    | nil => simp [trimS]
    | cons c r => simp only [trimS]; split <;> simp
  have hsz := splitS_size (trimS s.data.toList)
  rw [← hps] at hsz
  have hpn : ps ≠ [] := by rw [hps]; exact splitS_ne _
  have HRES : Hid (dotsL s.data.toList = textD ps) := by show textD (splitS (trimS s.data.toList)) = _; rw [← hps]
  obtain ⟨d0, hd0⟩ : ∃ d, ps.length = d + 1 := ⟨ps.length - 1, by have := List.length_pos_iff.2 hpn; omega⟩
  have hnn : d0 ≤ 1048577 := by
    have : ∀ l : List (List UInt8), l.length ≤ (l.map (·.length + 1)).sum := fun l => by
      induction l with
      | nil => simp
      | cons a l ih => simp; omega
    have := this ps
    omega
  have HSZ : Hid ((ps.map (·.length + 1)).sum ≤ 1048577) := by show _ ≤ _; omega
  have HN := Lib.hid hd0
  clear hps htl hsz hpn hd0
  obtain ⟨i0, hi, hz0, hz1, hz2⟩ := info_parts Tryz.infoStrU
  go_enter Tryz.func54, Tryz.ntmps54
  go_wp2_with fail
  refine C0.out.mono ?_
  rintro e w1 ⟨A0, c0, rfl, hR0, hb0⟩
  rw [HN.out] at hR0
  obtain ⟨g0, c0', he0⟩ := Joins.ownsRow_form hR0 (by omega)
  cases he0
  obtain ⟨-, hg1, hg2, -, hcap0, -, hcell⟩ := strs_cell hR0
  rw [HN.out]
  have HC := Lib.hid hcell
  have HB0 := Lib.hid hb0
  clear hR0 hb0 hcell C0
  obtain ⟨n, hn⟩ : ∃ n, n = d0 + 1 := ⟨_, rfl⟩
  go_wp2
  go_loopw [4, 5] (fun v4 v5 wr => ∃ (k : Nat) (A : Option Addr) (c : Nat) (nn : Nat), k ≤ d0 + 1 ∧ v5 = .int .i64 k ∧ v4 = .slice A nn c ∧ Hid (nn = (stackD (ps.take k)).length) ∧ Hid (wr.ownsRow w1.heap.size 9 1 (.slice A nn c) nn (strs (stackD (ps.take k)))) ∧ Hid (Below w1.heap.size w1 wr)) (fun _ v5 _ => d0 + 1 - (intOf v5).toNat)
  case atStart => exact ⟨0, none, 0, 0, Nat.zero_le _, rfl, rfl, rfl, World.ownsRow_nil _ _ _ _, Below.refl _ _⟩
  case round =>
    obtain ⟨k, A, c, nn, hk, rfl, rfl, HNN, HR, HB⟩ := hrel
    by_cases hlt : k < d0 + 1
    · obtain ⟨p, hp⟩ : ∃ p, ps[k]? = some p := ⟨_, List.getElem?_eq_getElem (by rw [HN.out]; exact hlt)⟩
      have b0 : (0 : Int) ≤ (k : Int) := by omega
      have b1 : (k : Int) < (d0 : Int) + 1 := by omega
      have c0 : wr.cell? ⟨g0, k, none⟩ = some (sv p) := (HB.out.cell (p := ⟨g0, k, none⟩) hg2).trans (HC.out k p hp)
      obtain ⟨x, hx⟩ : ∃ x, x = bS p := ⟨_, rfl⟩
      rw [show sv p = .string x from congrArg Value.string hx.symm] at c0
      have hxd : x.data.toList = p := by rw [hx]; rfl
      have HX := Lib.hid hx
      have HS' := Lib.hid (stackD_take ps k p hp)
      have hnn1 : nn + 1 ≤ 1048579 := by
        have h1 := HNN.out
        have h2 := stackD_len (ps.take k)
        rw [List.length_take] at h2
        omega
      clear hx
      by_cases hu : p = [46, 46]
      · have hx2 : x = ⟨#[46, 46]⟩ := by rw [HX.out, hu]; rfl
        subst hx2
        have HS2 : Hid (stackD (ps.take (k + 1)) = (stackD (ps.take k)).dropLast) := by show _ = _; rw [HS'.out, hu]; rfl
        clear hp HS' HX hxd hu
        rcases List.eq_nil_or_concat (stackD (ps.take k)) with hst | ⟨st, q, hst⟩
        · have hnn0 : nn = 0 := by rw [HNN.out, hst]; rfl
          have HST : Hid (stackD (ps.take (k + 1)) = stackD (ps.take k)) := by show _ = _; rw [HS2.out, hst]; rfl
          subst hnn0
          clear hst
          go_wp2
          go_roundw
          case rel => exact ⟨k + 1, A, c, 0, by omega, by go_num, rfl, by show _ = _; rw [HST.out]; exact HNN.out, by show World.ownsRow _ _ _ _ _ _ _; rw [HST.out]; exact HR.out, HB.out⟩
          case measure => simp [intOf]; omega
        · rw [List.concat_eq_append] at hst
          have hnn0 : nn = st.length + 1 := by rw [HNN.out, hst]; simp
          have HST : Hid (stackD (ps.take (k + 1)) = st) := by show _ = _; rw [HS2.out, hst]; simp
          have hR := HR.out
          rw [hst] at hR
          obtain ⟨d, hd⟩ : ∃ d, d = st.length := ⟨_, rfl⟩
          rw [← hd] at hnn0
          subst hnn0
          have hR1 : wr.ownsRow w1.heap.size 9 1 (.slice A (d + 1) c) (d + 1) (strs st ++ [sv q]) := by
            have : strs (st ++ [q]) = strs st ++ [sv q] := by unfold strs; rw [List.map_append]; rfl
            rw [← this]; exact hR
          obtain ⟨g, c', he⟩ := Joins.ownsRow_form hR1 (by omega)
          cases he
          have hR2 := row_cutS hR1
          have hcap : d + 1 ≤ c := (strs_cell hR).2.2.2.2.1
          have HR2 : Hid (wr.ownsRow w1.heap.size 9 1 (.slice (some ⟨g, 0, none⟩) d c) d (strs st)) := hR2
          have HD := Lib.hid hd
          have b3 : (0 : Int) < (d : Int) + 1 := by omega
          have b4 : (d : Int) ≤ (c : Int) := by omega
          clear hst hR hR1 hR2 hd HR
          go_wp2
          go_roundw
          case rel => exact ⟨k + 1, some ⟨g, 0, none⟩, c, d, by omega, by go_num, rfl, by show _ = _; rw [HST.out]; exact HD.out, by show World.ownsRow _ _ _ _ _ _ _; rw [HST.out]; exact HR2.out, HB.out⟩
          case measure => simp [intOf]; omega
      · by_cases hd : p = [46]
        · have hx2 : x = ⟨#[46]⟩ := by rw [HX.out, hd]; rfl
          subst hx2
          have HS2 : Hid (stackD (ps.take (k + 1)) = stackD (ps.take k)) := by show _ = _; rw [HS'.out, hd]; rfl
          clear hp HS' HX hxd hd hu
          go_wp2
          go_roundw
          case rel => exact ⟨k + 1, A, c, nn, by omega, by go_num, rfl, by show _ = _; rw [HS2.out]; exact HNN.out, by show World.ownsRow _ _ _ _ _ _ _; rw [HS2.out]; exact HR.out, HB.out⟩
          case measure => simp [intOf]; omega
        · have q1 : (x.toList == [46, 46]) = false := by rw [toL, hxd]; simpa using hu
          have q2 : (x.toList == [46]) = false := by rw [toL, hxd]; simpa using hd
          have HS2 : Hid (stackD (ps.take (k + 1)) = stackD (ps.take k) ++ [p]) := by show _ = _; rw [HS'.out]; simp [stepD, hu, hd]
          clear hp HS' hxd hd hu
          have hsize : w1.heap.size ≤ wr.heap.size := HB.out.size
          have NEW : Hid (∀ (j : Nat) u, [Value.string x][j]? = some u → (wr.alloc (.cells #[.string x] 9)).cell? ((⟨wr.heap.size, 0, none⟩ : Addr).add j) = some u) := fun j u hj => by
            have : j = 0 := by
              rcases j with _ | j
              · rfl
              · simp at hj
            subst this
            show (wr.alloc _).cell? ⟨wr.heap.size, 0, none⟩ = _
            rw [World.cell?_alloc_mark]; simpa using hj
          have HX2 : Hid (strs (stackD (ps.take k)) ++ [.string x] = strs (stackD (ps.take (k + 1)))) := by
            show _ = _
            rw [HS2.out, HX.out]; unfold strs; rw [List.map_append]; rfl
          have HL2 : Hid (nn + 1 = (stackD (ps.take (k + 1))).length) := by show _ = _; rw [HS2.out, List.length_append, ← HNN.out]; rfl
          clear HX
          go_wp2_with (at_builtin; refine wpList_append_own _ rfl _ _ 22 rfl w1.heap.size 9 i0 (.string ByteArray.empty) 1 16 Tryz.underlying22 hi hz0 hz1 hz2 rfl (by decide) _ _ _ rfl (HR.out.alloc _) ⟨wr.heap.size, 0, none⟩ 1 1 [.string x] rfl rfl NEW.out ?c2 ?c3 ?c4 ?c5 ?_)
          case c2 => intro u hu; simp at hu; subst hu; rfl
          case c3 => unfold maxLen; omega
          case c4 => omega
          case c5 => simp; omega
          intro v' w2 hown' hgrow _
          obtain ⟨g', c', rfl⟩ := Joins.ownsRow_form hown' (by omega)
          have HB2 : Hid (Below w1.heap.size w1 w2) := (HB.out.alloc hsize _).grown hgrow (by simp; omega) (fun b hb => (HR.out.lt b hb).1)
          rw [HX2.out] at hown'
          have HOWN2 := Lib.hid hown'
          clear hown' hgrow
          go_wp2
          go_roundw
          case rel => exact ⟨k + 1, some ⟨g', 0, none⟩, c', nn + 1, by omega, by go_num, rfl, HL2.out, HOWN2.out, HB2.out⟩
          case measure => simp [intOf]; omega
    · obtain rfl : k = d0 + 1 := by omega
      obtain ⟨st, hst⟩ : ∃ st, st = stackD ps := ⟨_, rfl⟩
      have htk : ps.take (d0 + 1) = ps := List.take_of_length_le (by rw [HN.out]; exact Nat.le_refl _)
      have hNN := HNN.out
      have hR := HR.out
      rw [htk] at hNN hR
      rw [← hst] at hNN hR
      have hj2 := stack_size ps []
      rw [show ps.foldl stepD [] = st from hst.symm] at hj2
      simp only [List.map_nil, List.sum_nil, Nat.zero_add] at hj2
      have hfl : (flS st).length ≤ 1048577 := by rw [flS_size]; exact Nat.le_trans hj2 HSZ.out
      have hln : nn ≤ 1048577 := by
        have : ∀ l : List (List UInt8), l.length ≤ (l.map (·.length + 1)).sum := fun l => by
          induction l with
          | nil => simp
          | cons a l ih => simp; omega
        have := this st
        have := HSZ.out
        omega
      have HTX : Hid (textD ps = 47 :: joinS st ++ (if openD ps && !st.isEmpty then [47] else [])) := by show _ = _; unfold textD; rw [← hst]
      have hBW := HB0.out.trans (HB.out.mono HB0.out.size)
      have HBW := Lib.hid hBW
      have HNN2 := Lib.hid hNN
      have HR2 := Lib.hid hR
      have cl : wr.cell? ⟨g0, d0, none⟩ = some (.string (bS (ps.getLastD [46]))) := by
        have h1 : ps[d0]? = some (ps.getLastD [46]) := by
          have := HN.out
          rw [List.getLastD_eq_getLast?, List.getLast?_eq_getElem?, this, Nat.add_sub_cancel, List.getElem?_eq_getElem (by omega)]
          rfl
        exact (HB.out.cell (p := ⟨g0, d0, none⟩) hg2).trans (HC.out d0 _ h1)
      have HOP : Hid (openD ps = dotty (ps.getLastD [46])) := rfl
      generalize ps.getLastD [46] = lp at cl HOP
      have HFL := Lib.hid hfl
      clear hst htk hR hj2 hfl hBW HNN HR HB hNN HC
      go_wp2
      go_loop [6, 7] (fun v6 v7 => ∃ j : Nat, j ≤ nn ∧ v7 = .int .i64 j ∧ v6 = .string (bS (flS (st.take j)))) (fun _ v7 => nn - (intOf v7).toNat)
      case atStart => exact ⟨0, Nat.zero_le _, rfl, rfl⟩
      case round =>
        obtain ⟨j, hj, rfl, rfl⟩ := hrel
        by_cases hlt2 : j < nn
        · obtain ⟨q, hq⟩ : ∃ q, st[j]? = some q := ⟨_, List.getElem?_eq_getElem (by rw [← HNN2.out]; exact hlt2)⟩
          have hR3 := HR2.out
          obtain ⟨g, c', he⟩ := Joins.ownsRow_form hR3 (by omega)
          cases he
          have c1 := (strs_cell hR3).2.2.2.2.2.2 j q hq
          have hft := flS_take st j q hq
          have hfs := flS_take_size st (j + 1)
          rw [hft] at hfs
          have hf2 := HFL.out
          obtain ⟨X, hX⟩ : ∃ X, X = bS (flS (st.take j)) := ⟨_, rfl⟩
          obtain ⟨Y, hY⟩ : ∃ Y, Y = bS q := ⟨_, rfl⟩
          rw [show sv q = .string Y from congrArg Value.string hY.symm] at c1
          have hXs : X.size + Y.size ≤ 1048577 := by
            rw [hX, hY, bS_size, bS_size]
            rw [List.length_append, List.length_cons] at hfs
            omega
          have hS1 := fun w' => run_string_add (P := Tryz.prog) w' X ⟨#[47]⟩ (by omega) (by decide)
          have hS2 := fun w' => run_string_add (P := Tryz.prog) w' (X ++ ⟨#[47]⟩) Y (by rw [ByteArray.size_append, show (ByteArray.mk #[47]).size = 1 from rfl]; omega) (by omega)
          have HXY : Hid (X ++ ⟨#[47]⟩ ++ Y = bS (flS (st.take (j + 1)))) := by
            show _ = _
            rw [hX, hY, hft, show (ByteArray.mk #[47]) = bS [47] from rfl, bS_app, bS_app]
            congr 1
            simp
          rw [← hX]
          have b0 : (0 : Int) ≤ (j : Int) := by omega
          have b1 : (j : Int) < (nn : Int) := by omega
          clear hX hY hft hfs hf2 hq hR3
          go_wp2
          go_round
          case rel => exact ⟨j + 1, by omega, by go_num, by rw [HXY.out]⟩
          case measure => simp [intOf]; omega
        · obtain rfl : j = nn := by omega
          have htk : st.take j = st := List.take_of_length_le (by rw [← HNN2.out]; exact Nat.le_refl _)
          rw [htk]
          clear htk hlt2 hj
          have hfl := HFL.out
          by_cases h0 : st = []
          · have hX : bS (flS st) = ⟨#[]⟩ := by rw [h0]; rfl
            rw [hX]
            have HF : Hid (bS (dotsL s.data.toList) = ⟨#[47]⟩) := by show _ = _; rw [HRES.out, HTX.out, h0]; simp [joinS]; rfl
            clear hX h0
            go_wp2
            go_ret
            rw [HF.out]
            exact ⟨rfl, HBW.out⟩
          · have hX : flS st = 47 :: joinS st := flS_join st h0
            obtain ⟨X, hX1⟩ : ∃ X, X = bS (flS st) := ⟨_, rfl⟩
            have hie : st.isEmpty = false := List.isEmpty_eq_false_iff.2 h0
            have q1 : ¬ X.toList = [] := by rw [ByteArray.toList_eq, hX1, bS_data, hX]; exact List.cons_ne_nil _ _
            have q2 : X.toList.isEmpty = false := List.isEmpty_eq_false_iff.2 q1
            have hS1 := fun w' => run_string_add (P := Tryz.prog) w' X ⟨#[47]⟩ (by rw [hX1, bS_size]; omega) (by decide)
            have HF : Hid (bS (dotsL s.data.toList) = if dotty lp then X ++ ⟨#[47]⟩ else X) := by
              show _ = _
              rw [HRES.out, HTX.out, hie, HOP.out, hX1, hX, show (ByteArray.mk #[47]) = bS [47] from rfl, bS_app]
              cases dotty lp <;> simp
            rw [← hX1]
            obtain ⟨y, hy⟩ : ∃ y, y = bS lp := ⟨_, rfl⟩
            have hyd : y.data.toList = lp := by rw [hy]; rfl
            rw [← hy] at cl
            clear hX hX1 hie h0 hfl
            have b0 : (0 : Int) ≤ (d0 : Int) := by omega
            have b1 : (d0 : Int) < (d0 : Int) + 1 := by omega
            by_cases hu : lp = [46, 46]
            · have hx2 : y = ⟨#[46, 46]⟩ := by rw [hy, hu]; rfl
              have hd2 : dotty lp = true := by rw [hu]; rfl
              rw [hd2] at HF
              subst hx2
              clear hu hy hyd hd2
              go_wp2
              go_ret
              rw [HF.out]
              exact ⟨rfl, HBW.out⟩
            · by_cases hd : lp = [46]
              · have hx2 : y = ⟨#[46]⟩ := by rw [hy, hd]; rfl
                have hd2 : dotty lp = true := by rw [hd]; rfl
                rw [hd2] at HF
                subst hx2
                clear hu hy hyd hd hd2
                go_wp2
                go_ret
                rw [HF.out]
                exact ⟨rfl, HBW.out⟩
              · have q3 : (y.toList == [46, 46]) = false := by rw [toL, hyd]; simpa using hu
                have q4 : (y.toList == [46]) = false := by rw [toL, hyd]; simpa using hd
                have hd2 : dotty lp = false := by simp [dotty, hu, hd]
                rw [hd2] at HF
                clear hu hy hyd hd hd2
                go_wp2
                go_ret
                rw [HF.out]
                exact ⟨rfl, HBW.out⟩
end Go.Proofs.YtkneafpmgbgalaaGreatDoor
