/- The walk of DiffSpans. Conditions: the events count together at most 2^20. -/
import Derived.Test.YtdhgkbghlkhfeaaDiffPaths
import Derived.Test.YtdhgkbghlkhfeaaCheckAll
namespace Go.Proofs.Ytdhgkbghlkhfeaa
open Go.RowKit
set_option linter.unusedVariables false
theorem Source.of_strs {w : World} {A : Option Addr} {n c : Nat} {xs : List ByteArray} (h : StrsAt w A n xs) (hc : c ≤ n) : Source w A n c (strCells xs) := by
  refine ⟨fun hA => ?_, fun ad hA j u hj => ?_⟩
  · have : n = 0 := by
      rcases Nat.eq_zero_or_pos n with h0 | h0
      · exact h0
      · obtain ⟨a, _, h1, _⟩ := h.2 0 h0; rw [hA] at h1; cases h1
    omega
  · unfold strCells at hj
    rw [List.getElem?_map] at hj
    cases hx : xs[j]? with
    | none => rw [hx] at hj; cases hj
    | some s =>
      rw [hx] at hj
      cases hj
      have hj2 : j < n := by have := (List.getElem?_eq_some_iff.1 hx).1; rw [h.1] at this; exact this
      obtain ⟨a, s', h1, h2, _, h4⟩ := h.2 j hj2
      rw [hA] at h1
      cases h1
      rw [hx] at h2
      cases h2
      exact h4
theorem strs_snoc {w : World} {base : Nat} {e : TypeId} {A : Option Addr} {c : Nat} {q : List ByteArray} {x : ByteArray} (h : w.ownsRow base e 1 (.slice A (q.length + 1) c) (0 + q.length + 1) ([] ++ strCells q ++ [.string x])) : StrsAt w A (q.length + 1) (q ++ [x]) := by
  have h2 : w.ownsRow base e 1 (.slice A (q ++ [x]).length c) (q ++ [x]).length (strCells (q ++ [x])) := by
    rw [List.length_append, show strCells (q ++ [x]) = [] ++ strCells q ++ [.string x] by simp [strCells]]
    rw [Nat.zero_add] at h
    exact h
  have := StrsAt.of_own h2
  rwa [List.length_append] at this
theorem texts_same (A : Option Addr) (n c : Nat) (l : List ByteArray) (A' : Option Addr) (c' : Nat) (w : World) (hl : StrsAt w A n l) (hm : StrsAt w A' n l) (hn : n ≤ 9223372036854775807) :
    Calls Try.prog 11 #[.slice A n c, .slice A' n c'] w (RetQ true w) := by
  have h := texts_any A n c l A' n c' l w hl hm hn
  rwa [decide_eq_true (rfl : l = l)] at h
set_option maxRecDepth 100000 in
set_option maxHeartbeats 8000000 in
theorem spans_loop (A : Option Addr) (n c : Nat) (l : List Ev) (w : World) (hl : EvsAt w A n l) (hn : n ≤ 1048576) (hc : n ≤ c) (hc2 : c ≤ 9223372036854775807) (hs : evSum l ≤ 1048576) (h1 : greatB n l = false) :
    Calls Try.prog 3 #[.slice A n c] w (BelB true w) := by
  have L := Lib.hid hl
  have G1 := Lib.hid (great_any A n c l w L.out (by omega))
  have H1 := Lib.hid h1
  clear hl h1
  go_enter Try.func3, Try.ntmps3
  go_wp2_with fail
  refine G1.out.mono ?_
  rintro x w1 ⟨rfl, hC1⟩
  rw [H1.out]
  have C1 := Lib.hid hC1
  clear hC1
  go_wp2_with fail
  refine (check40_any A n c l w1 (L.out.below C1.out) hs hn).mono ?_
  rintro x w2 ⟨p, v, rfl, hst, hB2⟩
  have C2 := Lib.hid (C1.out.trans (hB2.mono C1.out.size))
  have ST := Lib.hid hst
  clear hst hB2
  by_cases hv : v = 0
  · subst hv
    have ST2 := Lib.hid (ST.out rfl)
    clear ST
    go_wp2_with fail
    go_loopw [5] (fun i wr => ∃ (k : Nat), k ≤ n ∧ i = .int .i64 k ∧ Hid (Below w.heap.size w wr)) (fun i _ => n - (intOf i).toNat)
    case atStart => exact ⟨0, by omega, rfl, C2⟩
    case round =>
      obtain ⟨k, hk, rfl, HB⟩ := hrel
      by_cases hlt : k < n
      · obtain ⟨a, e, hA, hx, he, hok⟩ := (L.out.below HB.out).2 k hlt
        subst hA
        have b0 : (0 : Int) ≤ (k : Int) := by omega
        have b1 : (k : Int) < (n : Int) := by omega
        obtain ⟨hXb, g0, g1, g2, g3, g4⟩ := he
        clear hok
        by_cases h1 : e.k = 1
        · have q1 : (e.k != 1) = false := by simpa using h1
          obtain ⟨to, y, ht1, ht2, hsp, hy, hny, hp1, hp2⟩ := balanced ST2.out hx h1
          have LN := L.out.1
          obtain ⟨a', e', hA', hx', he', hok'⟩ := (L.out.below HB.out).2 to (by omega)
          cases hA'
          rw [hy] at hx'
          cases hx'
          obtain ⟨n1, n2⟩ := Prod.mk.inj hny
          have EY := Lib.hid he'
          have HX := Lib.hid hx
          have SP := Lib.hid hsp
          have P1 := Lib.hid hp1
          have P2 := Lib.hid hp2
          have NY := Lib.hid hny
          clear hx hsp hp1 hp2 hny hok' hy h1 he'
          go_wp2_with fail
          refine (span_any (some a) n c l k e wr (L.out.below HB.out) (by omega) hc HX.out).mono ?_
          rintro x w3 ⟨rfl, hB3⟩
          rw [SP.out]
          have HB3 := Lib.hid (HB.out.trans (hB3.mono HB.out.size))
          obtain ⟨_, _, y1, y2, _, _⟩ := EY.out.below hB3 EY.out.1
          obtain ⟨_, _, z1, z2, _, _⟩ := (show EvAt wr (a.add (k * 5)) e from ⟨hXb, g0, g1, g2, g3, g4⟩).below hB3 hXb
          rw [n1] at y1
          rw [n2] at y2
          have EX := Lib.hid ((show EvAt wr (a.add (k * 5)) e from ⟨hXb, g0, g1, g2, g3, g4⟩).below hB3 hXb)
          have t1 : ¬ to ≤ k := by omega
          have t2 : ¬ n ≤ to := by omega
          have c0 : (0 : Int) ≤ (to : Int) := by omega
          have c1 : (to : Int) < (n : Int) := by omega
          clear hB3 n1 n2 g0 g1 g2 g3 g4 hXb
          go_wp2_with fail
          go_quiet (fail)
          have HB4 := Lib.hid (HB3.out.trans (below_drewN _ w3 nq))
          have EX := Lib.hid (EX.out.below (below_drewN w3.heap.size w3 nq) EX.out.1)
          generalize w3.drewN nq = w4 at *
          clear y1 y2 z1 z2
          go_wp2_with fail
          refine (path_any (some a) n c l k w4 (L.out.below HB4.out) (by omega) hc hc2 (by omega)).mono ?_
          rintro x w5 ⟨A5, c5, rfl, hS5, hc5, hc5', hB5⟩
          have HB5 := Lib.hid (HB4.out.trans (hB5.mono HB4.out.size))
          have EX := Lib.hid (EX.out.below hB5 EX.out.1)
          have S5 := Lib.hid hS5
          clear hS5 hB5
          go_wp2_with fail
          refine (path_any (some a) n c l to w5 (L.out.below HB5.out) (by omega) hc hc2 (by omega)).mono ?_
          rintro x w6 ⟨A6, c6, rfl, hS6, hc6, hc6', hB6⟩
          have HB6 := Lib.hid (HB5.out.trans (hB6.mono HB5.out.size))
          have EX := Lib.hid (EX.out.below hB6 EX.out.1)
          have S6 := Lib.hid hS6
          have S5 := Lib.hid (S5.out.below hB6)
          clear hS6 hB6
          go_wp2_with fail
          have PA := path_any (some a) n c l (to + 1) w6 (L.out.below HB6.out) (by omega) hc hc2 (by omega)
          rw [show ((to + 1 : Nat) : Int) = (to : Int) + 1 from by omega] at PA
          refine PA.mono ?_
          clear PA
          rintro x w7 ⟨A7, c7, rfl, hS7, hc7, hc7', hB7⟩
          have HB7 := Lib.hid (HB6.out.trans (hB7.mono HB6.out.size))
          have EX := Lib.hid (EX.out.below hB7 EX.out.1)
          have S7 := Lib.hid hS7
          have S6 := Lib.hid (S6.out.below hB7)
          have S5 := Lib.hid (S5.out.below hB7)
          clear hS7 hB7
          have PL := pathP_len l k
          have HX2 := Lib.hid (ht2)
          have SB6 := S6.out
          have SB7 := S7.out
          rw [P1.out] at SB6
          simp only [List.length_append, List.length_cons, List.length_nil, Nat.zero_add] at SB6
          rw [P2.out] at SB7
          rw [P1.out, P2.out]
          simp only [List.length_append, List.length_cons, List.length_nil, Nat.zero_add]
          obtain ⟨hXb, _, _, x2, _, _⟩ := EX.out
          have HX := Lib.hid hXb
          generalize pathP (l.take k) = q at *
          obtain ⟨i0, hi0, hz0, hz1, hz2⟩ := info_parts Try.infoStr
          have hsz : w.heap.size ≤ w7.heap.size := HB7.out.size
          have HB0 := Lib.hid (HB7.out.trans (below_drew _ w7))
          have V6 := Lib.hid (SB6.below (below_drew _ w7))
          have V7 := Lib.hid (SB7.below (below_drew _ w7))
          have cc : ∀ w', Below w7.drew.heap.size w7.drew w' → w'.cell? ⟨(a.add (k * 5)).block, (a.add (k * 5)).off + 2, none⟩ = some (.string e.lo) := fun w' hb => (hb.cell (p := ⟨(a.add (k * 5)).block, (a.add (k * 5)).off + 2, none⟩) hXb).trans x2
          have CC := Lib.hid cc
          have d0 := Below.refl w7.drew.heap.size w7.drew
          have x0 := cc w7.drew d0
          have d1 := d0.alloc (Nat.le_refl _) (.cells #[] 9)
          have d2 := d0.alloc (Nat.le_refl _) (.cells #[.string e.lo] 9)
          have d3 := d1.alloc (by simp) (.cells #[.string e.lo] 9)
          have d4 := d2.alloc (by simp) (.cells #[] 9)
          have x1 := cc _ d1
          have x2 := cc _ d2
          have x3 := cc _ d3
          have x4 := cc _ d4
          have D1 := Lib.hid d1
          have D3 := Lib.hid d3
          have D4 := Lib.hid d4
          have SD := Lib.hid (S5.out.below (below_drew _ w7))
          have P1 := Lib.hid (Source.of_strs (SD.out.below d1) hc5')
          have P3 := Lib.hid (Source.of_strs (SD.out.below d3) hc5')
          have P4 := Lib.hid (Source.of_strs (SD.out.below d4) hc5')
          have O1 := Lib.hid (empty_own w7.drew w.heap.size 9 hsz)
          have O3 := Lib.hid (O1.out.alloc (.cells #[.string e.lo] 9))
          have O4 := Lib.hid (empty_own' (w7.drew.alloc (.cells #[.string e.lo] 9)) w.heap.size (w7.heap.size + 1) 9 (by simp; omega) (alloc_size w7.drew _))
          have lp : (strCells q).length = q.length := by simp [strCells]
          have bq : q.length + 1 ≤ 9223372036854775807 := by omega
          have bq2 : q.length ≤ 9223372036854775807 := by omega
          have bm : 0 + q.length ≤ maxLen := by unfold maxLen; omega
          have by16 : (0 + q.length) * 16 ≤ 140737488355328 := by omega
          have bm1 : 0 + q.length + 1 ≤ maxLen := by unfold maxLen; omega
          have by17 : (0 + q.length + 1) * 16 ≤ 140737488355328 := by omega
          have LP := Lib.hid lp
          clear cc d0 d1 d2 d3 d4 lp hXb SB6 SB7
          go_wp2_with fail
          go_region_held3 (fun w' => w'.cell? ⟨(a.add (k * 5)).block, (a.add (k * 5)).off + 2, none⟩ = some (.string e.lo)) (first | exact y4 | exact y3 | exact y2 | exact y1 | exact y0 | exact x1 | exact x2 | exact x3 | exact x4 | exact x0)
            (first
            | (go_at_call 11
               (with_reducible refine (texts_same A6 (q.length + 1) c6 (q ++ [e.lo]) A9 c9 w3 W6.out S9.out bq).mono ?_)
               rintro x w8 ⟨rfl, d8, rfl⟩
               have y3 := CC.out _ (D9.out.trans (below_drewN _ w3 d8))
               have W7 := Lib.hid (V7.out.below (D9.out.trans (below_drewN _ w3 d8)))
               have W5 := Lib.hid (SD.out.below (D9.out.trans (below_drewN _ w3 d8)))
               have B10 := Lib.hid (B9.out.trans (below_drewN _ w3 d8)))
            | (go_at_call 11
               (with_reducible refine (texts_same A5 q.length c5 q A7 c7 _ W5.out W7.out bq2).mono ?_)
               rintro x w8 ⟨rfl, d9, rfl⟩
               have y4 := y3
               have B11 := Lib.hid (B10.out.trans (below_drewN _ (w3.drewN d8) d9)))
            | (refine step_own (by rfl) (.tmp 91) (.tmp 98) 35 (by rfl) w.heap.size 9 i0 (.string ⟨#[]⟩) 16 Try.underlying35 hi0 hz0 hz1 hz2 (by rfl) v2 (0 + q.length) ([] ++ strCells q) (by rfl) HO9.out _ 1 1 [.string e.lo] (by rfl) rfl HS9.out (by intro u hu; simp at hu; subst hu; rfl) bm1 by17 hsz9 ?_
               intro v3 w3 ho3 hg3 _
               have D9 := Lib.hid (DA.out.grown hg3 DA.out.size HV9.out)
               have y2 := CC.out w3 D9.out
               have B9 := Lib.hid (HB9.out.grown hg3 hsz9 (fun g hg => (HO9.out.lt g hg).1))
               obtain ⟨A9, c9, hv3⟩ := ownRow_shape ho3
               rw [Nat.zero_add] at hv3
               subst hv3
               have S9 := Lib.hid (strs_snoc ho3)
               have W6 := Lib.hid (V6.out.below D9.out)
               clear ho3 hg3)
            | (refine step_own (by rfl) (.tmp 89) (.tmp 90) 35 (by rfl) w.heap.size 9 i0 (.string ⟨#[]⟩) 16 Try.underlying35 hi0 hz0 hz1 hz2 (by rfl) _ 0 [] (by rfl) O1.out A5 q.length c5 (strCells q) (by rfl) LP.out P1.out str_one bm by16 (Nat.le_trans hsz D1.out.size) ?_
               intro v2 w2 ho2 hg2 hb2
               obtain ⟨DB2, hv9⟩ := fresh_row D1.out rfl (Nat.le_refl _) hg2 hb2
               have HV9 := Lib.hid hv9
               have y0 := CC.out w2 DB2
               clear hv9 hb2
               have DA := Lib.hid (DB2.alloc DB2.size (.cells #[.string e.lo] 9))
               have y1 := CC.out (w2.alloc (.cells #[.string e.lo] 9)) (DB2.alloc DB2.size _)
               have HB9 := Lib.hid (HB0.out.trans ((DB2.alloc DB2.size (.cells #[.string e.lo] 9)).mono hsz))
               have hsz9 := HB9.out.size
               have HO9 := Lib.hid (ho2.alloc (.cells #[.string e.lo] 9))
               have HS9 := Lib.hid (Source.lit w2 (.string e.lo) 9))
            | (refine step_own (by rfl) (.tmp 89) (.tmp 90) 35 (by rfl) w.heap.size 9 i0 (.string ⟨#[]⟩) 16 Try.underlying35 hi0 hz0 hz1 hz2 (by rfl) _ 0 [] (by rfl) O3.out A5 q.length c5 (strCells q) (by rfl) LP.out P3.out str_one bm by16 (Nat.le_trans hsz D3.out.size) ?_
               intro v2 w2 ho2 hg2 hb2
               obtain ⟨DB2, hv9⟩ := fresh_row D3.out rfl (Nat.le_refl _) hg2 hb2
               have HV9 := Lib.hid hv9
               have y0 := CC.out w2 DB2
               clear hv9 hb2
               have DA := Lib.hid DB2
               have y1 := y0
               have HB9 := Lib.hid (HB0.out.trans (DB2.mono hsz))
               have hsz9 := HB9.out.size
               have HO9 := Lib.hid ho2
               have HS9 := Lib.hid ((Source.lit' (w7.drew.alloc (.cells #[] 9)) (w7.heap.size + 1) (.string e.lo) 9 (alloc_size w7.drew _)).other hg2 rfl (Nat.succ_ne_self _)))
            | (refine step_own (by rfl) (.tmp 89) (.tmp 90) 35 (by rfl) w.heap.size 9 i0 (.string ⟨#[]⟩) 16 Try.underlying35 hi0 hz0 hz1 hz2 (by rfl) _ 0 [] (by rfl) O4.out A5 q.length c5 (strCells q) (by rfl) LP.out P4.out str_one bm by16 (Nat.le_trans hsz D4.out.size) ?_
               intro v2 w2 ho2 hg2 hb2
               obtain ⟨DB2, hv9⟩ := fresh_row D4.out rfl (Nat.le_succ _) hg2 hb2
               have HV9 := Lib.hid hv9
               have y0 := CC.out w2 DB2
               clear hv9 hb2
               have DA := Lib.hid DB2
               have y1 := y0
               have HB9 := Lib.hid (HB0.out.trans (DB2.mono hsz))
               have hsz9 := HB9.out.size
               have HO9 := Lib.hid ho2
               have HS9 := Lib.hid (((Source.lit w7.drew (.string e.lo) 9).below (fun ad hA => by cases hA; exact alloc_lt _ _) ((Below.refl _ _).alloc (Nat.le_refl _) (.cells #[] 9))).other hg2 rfl (Nat.ne_of_lt (Nat.lt_succ_self _))))
            | fail)
          all_goals
            clear DA D9 HO9 HS9 HV9 HB9
            go_wp2
            go_roundw
            case rel => exact ⟨k + 1, by omega, by go_num, B9.out.trans (below_drewN _ w3 _)⟩
            case measure => simp [intOf]; omega
        · have q1 : (e.k != 1) = true := by simpa using h1
          clear h1
          go_wp2
          go_roundw
          case rel => exact ⟨k + 1, by omega, by go_num, HB⟩
          case measure => simp [intOf]; omega
      · obtain rfl : k = n := by omega
        go_wp2_with fail
        refine (live42_any _).mono ?_
        rintro x w9 ⟨rfl, hB9⟩
        go_wp2
        go_ret
        exact ⟨rfl, HB.out.trans (hB9.mono HB.out.size)⟩
  · have t1 : (v == 0) = false := by simpa using hv
    have t2 : (v != 0) = true := by simpa using hv
    clear hv
    go_wp2_with fail
    refine (live42_any _).mono ?_
    rintro x w9 ⟨rfl, hB9⟩
    go_wp2
    go_ret
    exact ⟨rfl, C2.out.trans (hB9.mono C2.out.size)⟩
set_option maxHeartbeats 8000000 in
theorem spans_law (A : Option Addr) (n c : Nat) (l : List Ev) (w : World) (hl : EvsAt w A n l) (hn : n ≤ 1048576) (hc : n ≤ c) (hc2 : c ≤ 9223372036854775807) (hs : evSum l ≤ 1048576) :
    Calls Try.prog 3 #[.slice A n c] w (BelB true w) := by
  cases h1 : greatB n l with
  | false => exact spans_loop A n c l w hl hn hc hc2 hs h1
  | true =>
    have L := Lib.hid hl
    clear hl
    have G1 := Lib.hid (great_any A n c l w L.out (by omega))
    have H1 := Lib.hid h1
    clear h1
    go_enter Try.func3, Try.ntmps3
    go_wp2_with fail
    refine G1.out.mono ?_
    rintro x w1 ⟨rfl, hC⟩
    rw [H1.out]
    go_wp2_with fail
    refine (live42_any _).mono ?_
    rintro x w9 ⟨rfl, hB9⟩
    go_wp2
    go_ret
    exact ⟨rfl, hC.trans (hB9.mono hC.size)⟩
end Go.Proofs.Ytdhgkbghlkhfeaa
