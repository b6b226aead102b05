/- The walk of JoinPuts. Conditions: the events count together at most 2^20. -/
import Derived.Test.YtijofagmddhmgaaJoinPutsPlain
import Derived.Test.YtijofagmddhmgaaJoinAlls
namespace Go.Proofs.Ytijofagmddhmgaa
open Go.RowKit
theorem TellAt.fg {B bo nb q : Nat} {ms : List Ev} {w W : World} (h : TellAt B bo nb q ms w) (hb : Below w.heap.size w W) (hs : w.heap.size < W.heap.size) : OutFg bo w.heap.size W := by
  obtain ⟨_, _, vo, hbo, ho⟩ := h
  have hlt : bo < w.heap.size := by
    rcases Nat.lt_or_ge bo w.heap.size with h' | h'
    · exact h'
    · rw [Array.getElem?_eq_none h'] at hbo; cases hbo
  exact ⟨hs, Nat.ne_of_gt hlt, vo, (hb.block bo hlt).trans hbo, fun heq => Nat.lt_irrefl _ (ho.lt _ heq).2⟩
theorem outFn2 (B bo nb q : Nat) : OutFn2 B 20 (.pointer (some ⟨bo, 0, none⟩)) (.pointer (some ⟨nb, 0, none⟩)) (TellAt B bo nb q) (OutFg bo) (ansPut q) where
  enters := enters_of Try.func20 (by kernel_rfl) rfl
  call := fun ms e w hB ho _ _ hm => by
    by_cases hq : q ≤ ms.length
    · have : ansPut q ms e = (11, ms) := if_pos hq
      rw [this]; exact putOut_full B bo nb q ms e w hB ho hq
    · have : ansPut q ms e = (0, ms ++ [e]) := if_neg hq
      rw [this]; exact putOut_more B bo nb q ms e w hB ho hq hm
  newF := fun _ _ _ h hb hs => h.fg hb hs
  keptF := fun _ _ _ h hk hs => h.kept hk (by unfold badW; decide) hs
  kept := fun _ _ _ h hk => h.kept hk (by unfold badW; decide) (by unfold badW; decide) (by unfold badW; decide)
theorem flush_empty2 (B b : Nat) (fid : FuncId) (cap cap2 p : Value) (w : World) (hB : B ≤ b) (h : JAt b (.func (.func fid) #[] #[cap, cap2]) p (.slice none 0 0) w) :
    Calls Try.prog 22 #[.pointer (some ⟨b, 0, none⟩)] w fun x w' => x = .returned (.int .i64 0) ∧ Below B w w' ∧ KeptT badW w w' := by
  have ef := eqlFn2 fid cap cap2
  have c0 := h.c0
  have H := Lib.hid h
  clear h
  go_enter Try.func22, Try.ntmps22
  go_wp2_with fail
  refine (jstring_nil B b _ p w H.out).mono ?_
  rintro x w1 ⟨rfl, hB1, hK1⟩
  have h1 := H.out.kept hK1 notSJ
  have KS1 := Lib.hid (hK1.mono badS_W)
  have HB1 := Lib.hid hB1
  clear hB1 hK1
  go_wp2_with fail
  refine (jreset B b _ p _ w1 hB h1).mono ?_
  rintro x w2 ⟨rfl, h2, hB2, hK2⟩
  have HKK := Lib.hid (KS1.out.trans (hK2.mono badJ_W))
  have HB2 := Lib.hid (HB1.out.trans hB2)
  clear h1 h2 hB2 hK2
  go_wp2
  go_ret
  exact ⟨rfl, HB2.out, HKK.out⟩
theorem new2_any (fid : FuncId) (cap cap2 : Value) (w : World) : Calls Try.prog 19 #[.func (.func fid) #[] #[cap, cap2]] w fun e w' => e = .returned (.pointer (some ⟨w.heap.size, 0, none⟩)) ∧ w' = w.alloc (.cells #[.func (.func fid) #[] #[cap, cap2], .pointer none, .slice none 0 0] 69) := by
  go_enter Try.func19, Try.ntmps19
  go_wp2
  go_ret
  exact ⟨rfl, rfl⟩
theorem sameEv_refl (e : Ev) : sameEv e e = true := by unfold sameEv; simp
theorem sameEvs_refl (l : List Ev) : sameEvs l l = true := (sameEvs_iff l l).2 ⟨rfl, fun i e f h1 h2 => by rw [h1] at h2; cases h2; exact sameEv_refl e⟩
theorem EvsAt.take {w : World} {A : Option Addr} {n q : Nat} {l : List Ev} (h : EvsAt w A n l) (hq : q ≤ n) : EvsAt w A q (l.take q) := by
  refine ⟨by rw [List.length_take, h.1]; omega, fun i hi => ?_⟩
  obtain ⟨a, e, h1, h2, h3⟩ := h.2 i (by omega)
  exact ⟨a, e, h1, by rw [List.getElem?_take_of_lt hi]; exact h2, h3⟩
theorem two_cells {w W : World} {i j : Nat} {u v : Value} {s t : TypeId} (h1 : w.heap[i]? = some (.cells #[u] s (0, 0))) (h2 : w.heap[j]? = some (.cells #[v] t (0, 0))) (hC : Below w.heap.size w W) :
    W.cell? ⟨i, 0, none⟩ = some u ∧ W.cell? ⟨j, 0, none⟩ = some v := by
  have k1 := KeptT.below (bad := fun _ => False) hC _ _ _ _ h1 (fun h => h)
  have k2 := KeptT.below (bad := fun _ => False) hC _ _ _ _ h2 (fun h => h)
  exact ⟨by rw [Lib.cell_of_heap k1]; rfl, by rw [Lib.cell_of_heap k2]; rfl⟩
theorem one_cell {w W : World} {i : Nat} {u : Value} (h1 : w.heap[i]? = some (.cells #[u] 22 (0, 0))) (hK : KeptT badW w W) : W.cell? ⟨i, 0, none⟩ = some u := by
  rw [Lib.cell_of_heap (hK _ _ _ _ h1 (by unfold badW; decide))]; rfl
theorem JAt.kept2 {b : Nat} {fn p v : Value} {w w' : World} (h : JAt b fn p v w) (hk : Below w.heap.size w w') : JAt b fn p v w' := h.kept (KeptT.below (bad := fun _ => False) hk) (fun h => h)
theorem putR_len (q : Nat) (s : List Ev × ByteArray) (h : s.1.length ≤ 4194302) : (flushR (ansPut q) s.1 s.2).2.length ≤ 4194304 := by
  unfold flushR ansPut
  split
  · simp only; omega
  · split
    · simp only; omega
    · simp only [List.length_append, List.length_cons, List.length_nil]; omega
theorem put_puts {B bo nb q : Nat} (b : Nat) (p v : Value) (s : List Ev × ByteArray) (e : Ev) (w : World)
    (hB : B ≤ b) (h : JAt b (.func (.func 20) #[] #[.pointer (some ⟨bo, 0, none⟩), .pointer (some ⟨nb, 0, none⟩)]) p v w) (hp : p = .pointer none ∨ p = .pointer (some ⟨b, 1, none⟩)) (ht : JText B v s.2 w) (hJ : TellAt B bo nb q s.1 w) (hm : s.1.length ≤ 4194302) (hlen : s.2.size + e.tx.size ≤ 140737488355328) (hn : e.n ≤ 1048576) (hlow : ∀ w', Below B w w' → EvOk w' e) :
    Calls Try.prog 21 #[.pointer (some ⟨b, 0, none⟩), .agg #[.int .i64 e.k, .string e.sp, .string e.lo, .slice e.A e.n e.c, .string e.tx]] w (TellPut B b (.func (.func 20) #[] #[.pointer (some ⟨bo, 0, none⟩), .pointer (some ⟨nb, 0, none⟩)]) (TellAt B bo nb q) (putR (ansPut q) s.1 s.2 e) w) := by
  by_cases hk : e.k = 3
  · exact put_text2 (outFn2 B bo nb q) b p v s.2 s.1 e w hB h hp ht hJ hlen hk
  · exact put_other2 (outFn2 B bo nb q) b p v s.2 s.1 e w hB h ht hJ (by omega) (putR_len q s hm) hn hlow hk
set_option maxRecDepth 100000 in
set_option maxHeartbeats 8000000 in
theorem joinPuts_any (A : Option Addr) (n c : Nat) (l : List Ev) (most : Int) (w : World) (hm0 : 0 ≤ most) (hm1 : most ≤ 255) (hl : EvsAt w A n l) (hn : n ≤ 1048576) (hs : evSum l ≤ 1048576) :
    Calls Try.prog 5 #[.slice A n c, .int .u8 most] w (BelB true w) := by
  have L := Lib.hid hl
  have G1 := Lib.hid (great_any A n c l w hl (by omega))
  clear hl
  obtain ⟨q, hq, hq9⟩ : ∃ q : Nat, most % 10 = (q : Int) ∧ q < 10 := ⟨(most % 10).toNat, by omega, by omega⟩
  have K := Lib.hid hq
  clear hq
  cases hg : greatB n l with
  | true =>
    have H1 := Lib.hid hg
    clear hg
    go_enter Try.func5, Try.ntmps5
    go_wp2_with fail
    refine G1.out.mono ?_
    rintro x w1 ⟨rfl, hC⟩
    rw [H1.out]
    go_wp2_with fail
    refine (live37_any _).mono ?_
    rintro x w9 ⟨rfl, hB9⟩
    go_wp2
    go_ret
    exact ⟨rfl, hC.trans (hB9.mono hC.size)⟩
  | false =>
    have H1 := Lib.hid hg
    have hn1 : n ≤ 100 := by unfold greatB at hg; simp at hg; omega
    have LN := Lib.hid L.out.1
    clear hg
    go_enter Try.func5, Try.ntmps5
    go_wp2_with fail
    refine G1.out.mono ?_
    rintro x w1 ⟨rfl, hC⟩
    rw [H1.out]
    go_wp2_with fail
    rw [K.out]
    have hBa : Below w.heap.size w ((w1.alloc (.cells #[.int .i64 q] 3)).alloc (.cells #[.slice none 0 0] 22)) := (hC.alloc hC.size _).alloc (by simp; have := hC.size; omega) _
    have hn0 : ((w1.alloc (.cells #[.int .i64 q] 3)).alloc (.cells #[.slice none 0 0] 22)).heap[w1.heap.size]? = some (.cells #[.int .i64 q] 3 (0, 0)) :=
      KeptT.below (bad := fun _ => False) ((Below.refl _ _).alloc (Nat.le_refl _) _) _ _ _ _ (heap_alloc_new w1 _) (fun h => h)
    have hb0 : ((w1.alloc (.cells #[.int .i64 q] 3)).alloc (.cells #[.slice none 0 0] 22)).heap[w1.heap.size + 1]? = some (.cells #[.slice none 0 0] 22 (0, 0)) := by
      have := heap_alloc_new (w1.alloc (.cells #[.int .i64 q] 3)) (.cells #[.slice none 0 0] 22)
      rwa [World.size_alloc] at this
    refine (new2_any _ _ _ _).mono ?_
    generalize (w1.alloc (.cells #[.int .i64 q] 3)).alloc (.cells #[.slice none 0 0] 22) = V at *
    have hO1 : TellAt w.heap.size (w1.heap.size + 1) w1.heap.size q [] V := ⟨by have := hC.size; omega, hn0, .slice none 0 0, hb0, World.ownsRow_nil _ _ _ _⟩
    obtain ⟨b, hb⟩ : ∃ b, V.heap.size = b := ⟨_, rfl⟩
    have hJ0 : JAt b (.func (.func 20) #[] #[.pointer (some ⟨w1.heap.size + 1, 0, none⟩), .pointer (some ⟨w1.heap.size, 0, none⟩)]) (.pointer none) (.slice none 0 0) (V.alloc (.cells #[(.func (.func 20) #[] #[.pointer (some ⟨w1.heap.size + 1, 0, none⟩), .pointer (some ⟨w1.heap.size, 0, none⟩)]), .pointer none, .slice none 0 0] 69)) := by
      rw [← hb]; exact heap_alloc_new V _
    have hB2 : Below V.heap.size V (V.alloc (.cells #[(.func (.func 20) #[] #[.pointer (some ⟨w1.heap.size + 1, 0, none⟩), .pointer (some ⟨w1.heap.size, 0, none⟩)]), .pointer none, .slice none 0 0] 69)) := (Below.refl _ V).alloc (Nat.le_refl _) _
    have J0 := Lib.hid hJ0
    have O0 := Lib.hid (hO1.kept (KeptT.below (bad := fun _ => False) hB2) (fun h => h) (fun h => h) (fun h => h))
    have B0 := Lib.hid (hBa.trans (hB2.mono hBa.size))
    have hbw : w.heap.size ≤ b := by rw [← hb]; exact hBa.size
    clear hJ0 hO1 hB2 hn0 hb0 hBa hC
    rintro x w2 ⟨rfl, rfl⟩
    rw [hb]
    clear hb
    generalize V.alloc _ = V1 at *
    go_wp2
    go_loopw [8, 9] (fun x i wr => ∃ (k : Nat) (z : Int) (p v : Value) (ms : List Ev) (t : ByteArray), k ≤ n ∧ x = .int .i64 z ∧ i = .int .i64 k ∧ Hid (JAt b (.func (.func 20) #[] #[.pointer (some ⟨w1.heap.size + 1, 0, none⟩), .pointer (some ⟨w1.heap.size, 0, none⟩)]) p v wr) ∧ Hid (p = .pointer none ∨ p = .pointer (some ⟨b, 1, none⟩)) ∧ Hid (JText w.heap.size v t wr) ∧ Hid (TellAt w.heap.size (w1.heap.size + 1) w1.heap.size q ms wr) ∧ Hid (PutS q l k (z, ms, t)) ∧ Hid (Below w.heap.size w wr)) (fun _ i _ => n - (intOf i).toNat)
    case atStart => exact ⟨0, 0, _, _, [], ⟨#[]⟩, by omega, rfl, rfl, J0.out, .inl rfl, jtext_nil _ _, O0.out, .inl ⟨rfl, rfl, Nat.zero_le _⟩, B0.out⟩
    case round =>
      obtain ⟨k, z, p, v, ms, t, hk, rfl, rfl, HJ, HP, HT, HO, HS, HB⟩ := hrel
      rcases HS.out with ⟨hz, hst, hql⟩ | ⟨hz, hms, hql⟩
      · obtain rfl : z = 0 := hz
        have hst' : (ms, t) = runJ l k := hst
        have ST := Lib.hid hst'
        have hql' : ms.length ≤ q := hql
        clear hst hql hst' HS
        by_cases hlt : k < n
        · obtain ⟨a, e, hA, hx, he, hok⟩ := L.out.2 k hlt
          subst hA
          have b0 : (0 : Int) ≤ (k : Int) := by omega
          have b1 : (k : Int) < (n : Int) := by omega
          obtain ⟨_, g0, g1, g2, g3, g4⟩ := he.below HB.out he.1
          have STEP := Lib.hid (putS_step q l k (ms, t) e hx ST.out hql')
          have hl2 := runJ_size l k
          rw [← ST.out] at hl2
          have hl2' : t.size ≤ evSum (l.take k) := hl2
          have hl3 := evSum_le l k
          have hl4 := evSum_mem hx
          have hl5 : e.tx.size + e.n ≤ e.all := by unfold Ev.all Ev.size; omega
          have HOK := Lib.hid hok
          have m1 : ms.length ≤ 4194302 := by omega
          have m2 : t.size + e.tx.size ≤ 140737488355328 := by omega
          have m3 : e.n ≤ 1048576 := by omega
          clear hx he hok hl2 hl2' hl3 hl4 hl5
          go_wp2_with fail
          refine (put_puts b p v (ms, t) e _ hbw HJ.out HP.out HT.out HO.out m1 m2 m3 (fun w' hb => HOK.out.below (HB.out.trans hb))).mono ?_
          generalize putR (ansPut q) (ms, t).1 (ms, t).2 e = r at *
          obtain ⟨z2, ms2, t2⟩ := r
          rintro x w2 ⟨rfl, ⟨p2, v2, hJ2, hp2, hT2⟩, hO2, hB2⟩
          have J2 := Lib.hid hJ2
          have P2 := Lib.hid hp2
          have T2 := Lib.hid hT2
          have O2 := Lib.hid hO2
          have B2 := Lib.hid (HB.out.trans hB2)
          clear hJ2 hp2 hT2 hO2 hB2
          go_wp2
          go_roundw
          case rel => exact ⟨k + 1, z2, p2, v2, ms2, t2, by omega, rfl, by go_num, J2, P2, T2, O2, STEP, B2⟩
          case measure => simp [intOf]; omega
        · obtain rfl : n = k := by omega
          have m1 : ms.length ≤ 4194304 := by omega
          have EN := Lib.hid (putS_end q l (ms, t) (by rw [LN.out]; exact ST.out) hql')
          rcases EN.out with ⟨hf, hle⟩ | ⟨hf, hle⟩
          · have FL : Hid (Calls Try.prog 22 #[.pointer (some ⟨b, 0, none⟩)] wr fun x w' => x = .returned (.int .i64 0) ∧ JAt b (.func (.func 20) #[] #[.pointer (some ⟨w1.heap.size + 1, 0, none⟩), .pointer (some ⟨w1.heap.size, 0, none⟩)]) (.pointer none) (.slice none 0 0) w' ∧ TellAt w.heap.size (w1.heap.size + 1) w1.heap.size q (allJ l) w' ∧ Below w.heap.size wr w') := by
              have h := flush_any2 (outFn2 w.heap.size (w1.heap.size + 1) w1.heap.size q) b p v t ms wr hbw HJ.out HT.out HO.out m1
              rw [show flushR (ansPut q) ms t = (0, allJ l) from hf] at h
              exact h.mono fun x w' h => ⟨h.1, h.2.1, h.2.2.1, h.2.2.2.1⟩
            have QL : Hid (¬ q < (allJ l).length) := by intro h; omega
            clear hf hle EN HJ HP HT HO ST
            go_wp2_with fail
            refine FL.out.mono ?_
            rintro x w2 ⟨rfl, hj2, hO2, hB2⟩
            have HJ2 := Lib.hid hj2
            have HO2 := Lib.hid hO2
            have HB2 := Lib.hid (HB.out.trans hB2)
            clear hj2 hO2 hB2
            go_wp2_with fail
            refine (rall_any A n c l _ (L.out.below HB2.out) hn hs).mono ?_
            rintro x w3 ⟨A3, c3, rfl, hE3, hc3, hc3', hB3⟩
            have HC3 := Lib.hid (HB2.out.trans (hB3.mono HB2.out.size))
            have hT3 := HO2.out.kept (KeptT.below (bad := fun _ => False) hB3) (fun h => h) (fun h => h) (fun h => h)
            have HJ3 := Lib.hid (HJ2.out.kept (KeptT.below (bad := fun _ => False) hB3) (fun h => h))
            obtain ⟨_, hn3, vo, hbo3, hown3⟩ := hT3
            obtain ⟨Ao, co, rfl⟩ := ownRow_shapeJ hown3
            have hokA : ∀ e ∈ allJ l, EvOk w3 e := fun e he => (flushJ_ok (runJ_ok L.out.ok l.length) e he).below HC3.out
            have EO := Lib.hid (EvsAt.of_own hown3 hokA)
            have ET := Lib.hid hE3
            have t9 : ¬ q < (allJ l).length := QL.out
            have hbig : (allJ l).length ≤ 10 := by omega
            have SAME : Hid (∀ W, Below w3.heap.size w3 W → Calls Try.prog 17 #[.slice Ao (allJ l).length co, .slice A3 (allJ l).length c3] W (BelB true W)) := fun W h => by
              have := same_any Ao _ co _ A3 _ c3 _ W (EO.out.below h) (ET.out.below h) (by omega)
              rwa [sameEvs_refl] at this
            have HBO := Lib.hid hbo3
            have HNO := Lib.hid hn3
            have kb : w3.cell? ⟨w1.heap.size + 1, 0, none⟩ = some (.slice Ao (allJ l).length co) := by rw [Lib.cell_of_heap hbo3]; rfl
            have kn : w3.cell? ⟨w1.heap.size, 0, none⟩ = some (.int .i64 q) := by rw [Lib.cell_of_heap hn3]; rfl
            have t8 : decide ((q : Int) < ((allJ l).length : Int)) = false := by simpa using t9
            clear hE3 hown3 hbo3 hn3 hB3 hokA
            go_wp2_with fail
            refine (SAME.out _ (Below.refl _ _)).mono ?_
            rintro x w4 ⟨rfl, hB4⟩
            have HC4 := Lib.hid (HC3.out.trans (hB4.mono HC3.out.size))
            have HJ4 := Lib.hid (HJ3.out.kept2 hB4)
            have K4 := Lib.hid (KeptT.below (bad := badW) hB4)
            clear hB4
            go_wp2_with fail
            refine (flush_empty2 w.heap.size b _ _ _ _ _ hbw HJ4.out).mono ?_
            rintro x w5 ⟨rfl, hB5, hK5⟩
            have y0 := one_cell HBO.out (K4.out.trans hK5)
            have HC5 := Lib.hid (HC4.out.trans hB5)
            clear hB5 hK5
            go_wp2_with fail
            refine (live37_any _).mono ?_
            rintro x w6 ⟨rfl, hB6⟩
            go_wp2
            go_ret
            exact ⟨rfl, HC5.out.trans (hB6.mono HC5.out.size)⟩

          · have FL : Hid (Calls Try.prog 22 #[.pointer (some ⟨b, 0, none⟩)] wr fun x w' => x = .returned (.int .i64 11) ∧ TellAt w.heap.size (w1.heap.size + 1) w1.heap.size q ((allJ l).take q) w' ∧ Below w.heap.size wr w') := by
              have h := flush_any2 (outFn2 w.heap.size (w1.heap.size + 1) w1.heap.size q) b p v t ms wr hbw HJ.out HT.out HO.out m1
              rw [show flushR (ansPut q) ms t = (11, (allJ l).take q) from hf] at h
              exact h.mono fun x w' h => ⟨h.1, h.2.2.1, h.2.2.2.1⟩
            have QL := Lib.hid hle
            clear hf hle EN HJ HP HT HO ST
            go_wp2_with fail
            refine FL.out.mono ?_
            rintro x w2 ⟨rfl, hO2, hB2⟩
            have HO2 := Lib.hid hO2
            have HB2 := Lib.hid (HB.out.trans hB2)
            clear hO2 hB2
            go_wp2_with fail
            refine (rall_any A n c l _ (L.out.below HB2.out) hn hs).mono ?_
            rintro x w3 ⟨A3, c3, rfl, hE3, hc3, hc3', hB3⟩
            have t9 : q < (allJ l).length := QL.out
            obtain ⟨a3, rfl⟩ : ∃ a, A3 = some a := by obtain ⟨a, _, ha, _⟩ := hE3.2 0 (by omega); exact ⟨a, ha⟩
            have HC3 := Lib.hid (HB2.out.trans (hB3.mono HB2.out.size))
            have hT3 := HO2.out.kept (KeptT.below (bad := fun _ => False) hB3) (fun h => h) (fun h => h) (fun h => h)
            obtain ⟨_, hn3, vo, hbo3, hown3⟩ := hT3
            obtain ⟨Ao, co, rfl⟩ := ownRow_shapeJ hown3
            have hlen : ((allJ l).take q).length = q := by rw [List.length_take]; omega
            have hokA : ∀ e ∈ (allJ l).take q, EvOk w3 e := fun e he => (flushJ_ok (runJ_ok L.out.ok l.length) e (List.mem_of_mem_take he)).below HC3.out
            have EO := Lib.hid (EvsAt.of_own hown3 hokA)
            rw [hlen] at hown3 hbo3
            have ET : Hid (EvsAt w3 (some a3) q ((allJ l).take q)) := hE3.take (by omega)
            rw [hlen] at EO
            have SAME : Hid (∀ W, Below w3.heap.size w3 W → Calls Try.prog 17 #[.slice Ao q co, .slice (some a3) q c3] W (BelB true W)) := fun W h => by
              have := same_any Ao q co _ (some a3) q c3 _ W (EO.out.below h) (ET.out.below h) (by omega)
              rwa [sameEvs_refl] at this
            have HBO := Lib.hid hbo3
            have HNO := Lib.hid hn3
            have hC : Below w3.heap.size w3 w3.drew := below_drew _ w3
            have kb0 : w3.cell? ⟨w1.heap.size + 1, 0, none⟩ = some (.slice Ao q co) := by rw [Lib.cell_of_heap hbo3]; rfl
            have kn0 : w3.cell? ⟨w1.heap.size, 0, none⟩ = some (.int .i64 q) := by rw [Lib.cell_of_heap hn3]; rfl
            have kb : w3.drew.cell? ⟨w1.heap.size + 1, 0, none⟩ = some (.slice Ao q co) := kb0
            have kn : w3.drew.cell? ⟨w1.heap.size, 0, none⟩ = some (.int .i64 q) := kn0
            have t8 : decide ((q : Int) < ((allJ l).length : Int)) = true := by simpa using t9
            have q1 : q ≤ c3 := by omega
            have q2 : (0 : Int) ≤ (q : Int) := by omega
            have q3 : (q : Int) ≤ (c3 : Int) := by omega
            clear hE3 hown3 hbo3 hn3 hB3 hlen hokA
            go_wp2_with fail
            go_region_held3 (fun w' => w'.cell? ⟨w1.heap.size + 1, 0, none⟩ = some (.slice Ao q co) ∧ w'.cell? ⟨w1.heap.size, 0, none⟩ = some (.int .i64 q))
              (first | exact ⟨y0, y1⟩ | exact ⟨kb, kn⟩)
              (first
              | (go_at_call 17; refine (SAME.out _ hC).mono ?_; rintro x w4 ⟨rfl, hB4⟩; have hC := hC.trans (hB4.mono hC.size); obtain ⟨y0, y1⟩ := two_cells HBO.out HNO.out hC)
              | (go_at_call 15; refine (live37_any _).mono ?_; rintro x w5 ⟨rfl, hB5⟩; have hC := hC.trans (hB5.mono hC.size); obtain ⟨y0, y1⟩ := two_cells HBO.out HNO.out hC))
            all_goals
              go_wp2
              go_ret
              exact ⟨rfl, HC3.out.trans (hC.mono HC3.out.size)⟩

      · obtain rfl : z = 11 := hz
        obtain rfl : ms = (allJ l).take q := hms
        have QL : Hid (q < (allJ l).length) := hql
        clear hql HS
        by_cases hlt : k < n
        all_goals
          go_wp2_with fail
          refine (rall_any A n c l _ (L.out.below HB.out) hn hs).mono ?_
          rintro x w3 ⟨A3, c3, rfl, hE3, hc3, hc3', hB3⟩
          have t9 : q < (allJ l).length := QL.out
          obtain ⟨a3, rfl⟩ : ∃ a, A3 = some a := by obtain ⟨a, _, ha, _⟩ := hE3.2 0 (by omega); exact ⟨a, ha⟩
          have HC3 := Lib.hid (HB.out.trans (hB3.mono HB.out.size))
          have hT3 := HO.out.kept (KeptT.below (bad := fun _ => False) hB3) (fun h => h) (fun h => h) (fun h => h)
          obtain ⟨_, hn3, vo, hbo3, hown3⟩ := hT3
          obtain ⟨Ao, co, rfl⟩ := ownRow_shapeJ hown3
          have hlen : ((allJ l).take q).length = q := by rw [List.length_take]; omega
          have hokA : ∀ e ∈ (allJ l).take q, EvOk w3 e := fun e he => (flushJ_ok (runJ_ok L.out.ok l.length) e (List.mem_of_mem_take he)).below HC3.out
          have EO := Lib.hid (EvsAt.of_own hown3 hokA)
          rw [hlen] at hown3 hbo3
          have ET : Hid (EvsAt w3 (some a3) q ((allJ l).take q)) := hE3.take (by omega)
          rw [hlen] at EO
          have SAME : Hid (∀ W, Below w3.heap.size w3 W → Calls Try.prog 17 #[.slice Ao q co, .slice (some a3) q c3] W (BelB true W)) := fun W h => by
            have := same_any Ao q co _ (some a3) q c3 _ W (EO.out.below h) (ET.out.below h) (by omega)
            rwa [sameEvs_refl] at this
          have HBO := Lib.hid hbo3
          have HNO := Lib.hid hn3
          have hC : Below w3.heap.size w3 w3.drew := below_drew _ w3
          have kb0 : w3.cell? ⟨w1.heap.size + 1, 0, none⟩ = some (.slice Ao q co) := by rw [Lib.cell_of_heap hbo3]; rfl
          have kn0 : w3.cell? ⟨w1.heap.size, 0, none⟩ = some (.int .i64 q) := by rw [Lib.cell_of_heap hn3]; rfl
          have kb : w3.drew.cell? ⟨w1.heap.size + 1, 0, none⟩ = some (.slice Ao q co) := kb0
          have kn : w3.drew.cell? ⟨w1.heap.size, 0, none⟩ = some (.int .i64 q) := kn0
          have t8 : decide ((q : Int) < ((allJ l).length : Int)) = true := by simpa using t9
          have q1 : q ≤ c3 := by omega
          have q2 : (0 : Int) ≤ (q : Int) := by omega
          have q3 : (q : Int) ≤ (c3 : Int) := by omega
          clear hE3 hown3 hbo3 hn3 hB3 hlen hokA
          go_wp2_with fail
          go_region_held3 (fun w' => w'.cell? ⟨w1.heap.size + 1, 0, none⟩ = some (.slice Ao q co) ∧ w'.cell? ⟨w1.heap.size, 0, none⟩ = some (.int .i64 q))
            (first | exact ⟨y0, y1⟩ | exact ⟨kb, kn⟩)
            (first
            | (go_at_call 17; refine (SAME.out _ hC).mono ?_; rintro x w4 ⟨rfl, hB4⟩; have hC := hC.trans (hB4.mono hC.size); obtain ⟨y0, y1⟩ := two_cells HBO.out HNO.out hC)
            | (go_at_call 15; refine (live37_any _).mono ?_; rintro x w5 ⟨rfl, hB5⟩; have hC := hC.trans (hB5.mono hC.size); obtain ⟨y0, y1⟩ := two_cells HBO.out HNO.out hC))
          all_goals
            go_wp2
            go_ret
            exact ⟨rfl, HC3.out.trans (hC.mono HC3.out.size)⟩

end Go.Proofs.Ytijofagmddhmgaa
