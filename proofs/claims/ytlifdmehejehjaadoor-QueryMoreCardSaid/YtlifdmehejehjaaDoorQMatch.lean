/- The contract of query.Match. Conditions: none on steps and paths but that they lie in memory. -/
import Derived.Test.YtlifdmehejehjaaDoorQMem
import Derived.Deep.Cut
namespace Go.Proofs.YtlifdmehejehjaaDoor
open Go.RowKit Go.Proofs.YtlifdmehejehjaaDoor.QPlain
set_option linter.unusedVariables false
set_option linter.unusedSimpArgs false
theorem Tryd.infoArr65 : (Tryd.prog.info? 61).map (fun i => (i.zero, i.size)) = some (some (.agg (List.replicate 65 (Value.int .i64 0)).toArray), 65) := by kernel_rfl
theorem zero_info {P : Program} {t : TypeId} {v : Value} {n : Nat} (h : (P.info? t).map (fun i => (i.zero, i.size)) = some (some v, n)) :
    (∀ w, (zeroValue t).run P w = .ok v w) ∧ (P.info? t).map (·.size) = some n := by
  cases hq : P.info? t with
  | none => simp [hq] at h
  | some i =>
    simp [hq] at h
    exact ⟨fun w => by simp [zeroValue, typeInfo, hq, h.1], by simp [h.2]⟩
theorem below_setRow {B g : Nat} (hg : B ≤ g) (w : World) (cs : Array Value) : Below B w (w.setRow g cs) := by
  refine ⟨rfl, rfl, rfl, ?_, fun k hk => ?_⟩
  · unfold World.setRow; simp
  · unfold World.setRow
    show (w.heap.modify g _)[k]? = _
    rw [Array.getElem?_modify, if_neg (by omega)]
theorem arr_setRow {B : Nat} {ls ms : List Int} {w : World} (h : ArrB B ls w) : ArrB B ms (w.setRow B (ms.map (Value.int .i64)).toArray) := setRow_heap w B _ _ _ _ h
theorem run_loadArr {B : Nat} {ls : List Int} {w : World} (h : ArrB B ls w) (hl : ls.length = 65) : (Instr.loadAt 61 (.pointer (some ⟨B, 0, none⟩))).run Tryd.prog w = .ok (.agg (ls.map (Value.int .i64)).toArray) w := by
  simp only [Instr.loadAt, Instr.sureAddr, Sem.run_bind, Sem.run_pure, Result.andThen]
  exact run_loadVar_row _ _ _ _ _ (0, 0) _ h Tryd.underlying61 rfl (by rw [(zero_info Tryd.infoArr65).2]; simp [hl])
theorem run_storeArr {B : Nat} {ls ms : List Int} {w : World} (h : ArrB B ls w) (hl : ls.length = 65) (hm : ms.length = 65) : (Instr.storeAt 61 (.pointer (some ⟨B, 0, none⟩)) (.agg (ms.map (Value.int .i64)).toArray)).run Tryd.prog w = .ok () (w.setRow B (ms.map (Value.int .i64)).toArray) := by
  simp only [Instr.storeAt, Instr.sureAddr, Sem.run_bind, Sem.run_pure, Result.andThen]
  exact run_storeVar_row _ _ _ _ _ _ h (by rw [(zero_info Tryd.infoArr65).2]; simp [hm]) (by simp [hl, hm]) (by simp [Value.oneCell'])
theorem arr_new (w : World) : ArrB w.heap.size (List.replicate 65 0) (w.alloc (.cells (List.replicate 65 (Value.int .i64 0)).toArray 61)) := by
  unfold ArrB
  rw [World.alloc]
  simp
set_option maxRecDepth 100000 in
set_option maxHeartbeats 4000000 in
theorem match_in (A : Option Addr) (n cp : Nat) (l : List StN) (A' : Option Addr) (m cp' : Nat) (path : List ByteArray) (w : World) (hn : n ≤ 64) (hm : m ≤ 9223372036854775806) (hs : StsAt w A n l) (hp : TsAt w A' m path) :
    Calls Tryd.prog 9 #[.slice A n cp, .slice A' m cp'] w (BelB (matchN l path) w) := by
  have t0 : ¬ (64 : Int) < (n : Int) := by omega
  have hz := (zero_info Tryd.infoArr65).1
  have hln := hs.1
  have hpn := hp.1
  have ha0 := arr_new w
  have hb0 : Below w.heap.size w (w.alloc (.cells (List.replicate 65 (Value.int .i64 0)).toArray 61)) := (Below.refl _ _).alloc (Nat.le_refl _) _
  have ha1 := fun W => arr_new W
  have hmt := reach_match l path (by omega)
  obtain ⟨Z, hZ⟩ : ∃ Z, Z = (List.replicate 65 (Value.int .i64 0)).toArray := ⟨_, rfl⟩
  rw [← hZ] at hz ha0 hb0
  simp only [← hZ] at ha1
  obtain ⟨W1, hW1⟩ : ∃ W1, W1 = w.alloc (.cells Z 61) := ⟨_, rfl⟩
  rw [← hW1] at ha0 hb0
  have HW1 := Lib.hid hW1
  have HA0 := Lib.hid ha0
  have HB0 := Lib.hid hb0
  have HA1 := Lib.hid ha1
  have HS := Lib.hid hs
  have HP := Lib.hid hp
  have HLN := Lib.hid hln
  have HPN := Lib.hid hpn
  have HMT := Lib.hid hmt
  have hlw : ∀ (B : Nat), w.heap.size ≤ B → 0 < n → ∀ a, A = some a → a.block ≠ B := fun B hB h0 a ha => by
    intro he
    obtain ⟨a', x, ha', -, hl, -⟩ := hs.2 0 h0
    rw [ha] at ha'; cases ha'; omega
  have HLW := Lib.hid hlw
  clear hZ hW1 ha0 hb0 ha1 hs hp hln hpn hmt hlw
  go_enter Tryd.func9, Tryd.ntmps9
  go_upto_region 4 with (fail)
  rw [← HW1.out]
  have c0 := HA0.out.cell (i := 0) (by simp)
  have f0 := HA0.out.frozen 0
  go_wp2_with fail
  have HS1 : Hid (StsAt (W1.setCell ⟨w.heap.size, 0, none⟩ (.int .i64 1)) A n l) := HS.out.below (HB0.out.setCell (Nat.le_refl _) _)
  refine (rest_any A n cp w.heap.size l _ _ hn HS1.out (HA0.out.set 0 1) (by simp) start_bd (HLW.out _ (Nat.le_refl _))).mono ?_
  rintro e w2 ⟨⟨v, rfl⟩, hr, hg⟩
  have HB2 : Hid (Below w.heap.size w w2) := (HB0.out.setCell (Nat.le_refl _) _).grown hg (HB0.out.setCell (p := ⟨w.heap.size, 0, none⟩) (Nat.le_refl _) (.int .i64 1)).size (fun k e => by cases e; exact Nat.le_refl _)
  have HR0 : Hid (ArrB w.heap.size (reachF l path 0) w2) := by show ArrB _ _ _; unfold reachF; rw [HLN.out]; exact hr
  clear hr hg c0 f0
  go_wp2
  go_loopw [18] (fun v18 wr => ∃ k : Nat, k ≤ m ∧ v18 = .int .i64 k ∧ Hid (ArrB w.heap.size (reachF l path k) wr) ∧ Hid (Below w.heap.size w wr)) (fun v18 _ => m - (intOf v18).toNat)
  case atStart => exact ⟨0, Nat.zero_le _, rfl, HR0, HB2⟩
  case round =>
    obtain ⟨k, hk, rfl, HR, HB⟩ := hrel
    obtain ⟨wo, hwo⟩ : ∃ wo, wo = wr := ⟨_, rfl⟩
    subst hwo
    by_cases hlt : k < m
    · obtain ⟨a', p, rfl, hp, -, hcp⟩ := (HP.out.below HB.out).2 k hlt
      have b0 : (0 : Int) ≤ (k : Int) := by omega
      have b1 : (k : Int) < (m : Int) := by omega
      have hstep : reachF l path (k + 1) = restF (dpN l) l.length (nextF (dpN l) (fun i => tkP (l.getD i stZ) p) (reachF l path k) l.length) := by
        show restF _ _ _ = _
        rw [List.getD_eq_getElem?_getD, hp]; rfl
      rw [HLN.out] at hstep
      have hrl := reachF_len l path k
      have hrb := reachF_bd l path k
      generalize reachF l path k = rs at *
      have HST := Lib.hid hstep
      have HRL := Lib.hid hrl
      have HRB := Lib.hid hrb
      clear hstep hp hrl hrb
      go_upto_region 10 with (fail)
      obtain ⟨W2, hW2⟩ : ∃ W2, W2 = wo.alloc (.cells Z 61) := ⟨_, rfl⟩
      rw [← hW2]
      have ha2 := HA1.out wo
      rw [← hW2] at ha2
      have hb2 : Below wo.heap.size wo W2 := by rw [hW2]; exact (Below.refl _ _).alloc (Nat.le_refl _) _
      have hlt2 : w.heap.size < wo.heap.size := HR.out.lt
      have hne1 : ¬ w.heap.size = wo.heap.size := by omega
      have hne2 : ¬ wo.heap.size = w.heap.size := by omega
      have HA2 : Hid (ArrB wo.heap.size (nextF (dpN l) (fun i => tkP (l.getD i stZ) p) rs 0) W2) := ha2
      have HR2 := Lib.hid (HR.out.below hb2)
      have HB2 := Lib.hid (HB.out.trans (hb2.mono (Nat.le_of_lt hlt2)))
      have HLT := Lib.hid (Nat.le_of_lt hlt2)
      clear hW2 ha2 hb2 hlt2 HR HB hcp
      go_wp2
      go_loopw [24] (fun v24 wr => ∃ i : Nat, i ≤ n ∧ v24 = .int .i64 i ∧ Hid (ArrB w.heap.size rs wr) ∧ Hid (ArrB wo.heap.size (nextF (dpN l) (fun i => tkP (l.getD i stZ) p) rs i) wr) ∧ Hid (Below w.heap.size w wr)) (fun v24 _ => n - (intOf v24).toNat)
      case atStart => exact ⟨0, Nat.zero_le _, rfl, HR2, HA2, HB2⟩
      case round =>
        obtain ⟨i, hi, rfl, HRi, HAi, HBi⟩ := hrel
        by_cases hlti : i < n
        · obtain ⟨a, x, rfl, hx, hal, h0, h1, h2⟩ := (HS.out.below HBi.out).2 i hlti
          have d0 : (0 : Int) ≤ (i : Int) := by omega
          have d1 : (i : Int) < (n : Int) := by omega
          have d2 : (i : Int) < 65 := by omega
          have d3 : (i : Int) + 1 < 65 := by omega
          have hc := HRi.out.cell (i := i) (by rw [HRL.out]; omega)
          have hv := HRB.out i
          have hdp : dpN l i = x.deep := by unfold dpN; rw [List.getD_eq_getElem?_getD, hx]; rfl
          have htk : tkP (l.getD i stZ) p = tkP x p := by rw [List.getD_eq_getElem?_getD, hx]; rfl
          have hsu := nextF_succ (dpN l) (fun i => tkP (l.getD i stZ) p) rs i
          have hnl := nextF_len (dpN l) (fun i => tkP (l.getD i stZ) p) rs i
          rw [hdp, htk] at hsu
          unfold ps at hsu
          generalize hnn : nextF (dpN l) (fun i => tkP (l.getD i stZ) p) rs i = ns at *
          generalize rs.getD i 0 = v0 at *
          have HSU := Lib.hid hsu
          have HNL := Lib.hid hnl
          clear hdp htk hsu hnl hnn hx
          by_cases hv0 : v0 = 0
          · subst hv0
            have HQ : Hid (nextF (dpN l) (fun i => tkP (l.getD i stZ) p) rs (i + 1) = ns) := by show _ = _; rw [HSU.out]; rfl
            go_wp2
            go_roundw
            case rel => exact ⟨i + 1, by omega, by go_num, HRi, by rw [HQ.out]; exact HAi, HBi⟩
            case measure => simp [intOf]; omega
          · have t1 : (v0 == 0) = false := by simpa using hv0
            have hpos : 0 < v0 := by omega
            have TA := taker_any x wr
            obtain ⟨U, hU⟩ : ∃ U, U = wr.alloc (.cells #[.bool x.any, .bool x.deep, .string x.nm] 35) := ⟨_, rfl⟩
            rw [← hU] at TA
            have hbU : Below wr.heap.size wr U := by rw [hU]; exact (Below.refl _ _).alloc (Nat.le_refl _) _
            have e0 : U.cell? ⟨wr.heap.size, 0, none⟩ = some (.bool x.any) := by rw [hU]; simp
            have e1 : U.cell? ⟨wr.heap.size, 1, none⟩ = some (.bool x.deep) := by rw [hU]; simp
            have e2 : U.cell? ⟨wr.heap.size, 2, none⟩ = some (.string x.nm) := by rw [hU]; simp
            have TK := takes_any x p wr.heap.size U e0 e1 e2
            have hlw' : w.heap.size ≤ wr.heap.size := HBi.out.size
            have HRU := Lib.hid (HRi.out.below hbU)
            have HAU := Lib.hid (HAi.out.below hbU)
            have HBU := Lib.hid (HBi.out.trans (hbU.mono hlw'))
            have g1 := (hbU.cell (p := ⟨(a.add (i * 3)).block, (a.add (i * 3)).off + 1, none⟩) (by rw [addBlock]; exact hal)).trans h1
            have TA := Lib.hid TA
            clear hU hbU e0 e1 e2 hlw' hv
            cases htk : tkP x p with
            | false =>
              rw [htk] at TK
              have TK := Lib.hid TK
              have HQ : Hid (nextF (dpN l) (fun i => tkP (l.getD i stZ) p) rs (i + 1) = ns) := by show _ = _; rw [HSU.out, htk]; simp
              clear htk
              go_wp2_with fail
              refine TA.out.mono ?_
              rintro e w9 ⟨rfl, rfl⟩
              go_wp2_with fail
              refine TK.out.mono ?_
              rintro e w9 ⟨rfl, rfl⟩
              go_wp2
              go_roundw
              case rel => exact ⟨i + 1, by omega, by go_num, HRU, by rw [HQ.out]; exact HAU, HBU⟩
              case measure => simp [intOf]; omega
            | true =>
              rw [htk] at TK
              have TK := Lib.hid TK
              cases hd : x.deep with
              | true =>
                rw [hd] at g1
                have HQ : Hid (nextF (dpN l) (fun i => tkP (l.getD i stZ) p) rs (i + 1) = ns.set i 1) := by show _ = _; rw [HSU.out, htk, hd]; simp [hpos]
                have q0 := HAU.out.cell (i := i) (by rw [HNL.out]; omega)
                have q1 := HAU.out.frozen i
                clear htk hd
                go_wp2_with fail
                refine TA.out.mono ?_
                rintro e w9 ⟨rfl, rfl⟩
                go_wp2_with fail
                refine TK.out.mono ?_
                rintro e w9 ⟨rfl, rfl⟩
                go_wp2
                go_roundw
                case rel => exact ⟨i + 1, by omega, by go_num, HRU.out.other hne1 _ _, by rw [HQ.out]; exact HAU.out.set _ _, HBU.out.setCell HLT.out _⟩
                case measure => simp [intOf]; omega
              | false =>
                rw [hd] at g1
                have HQ : Hid (nextF (dpN l) (fun i => tkP (l.getD i stZ) p) rs (i + 1) = ns.set (i + 1) 1) := by show _ = _; rw [HSU.out, htk, hd]; simp [hpos]
                have q0 := HAU.out.cell (i := i + 1) (by rw [HNL.out]; omega)
                have q1 := HAU.out.frozen (i + 1)
                clear htk hd
                go_wp2_with fail
                refine TA.out.mono ?_
                rintro e w9 ⟨rfl, rfl⟩
                go_wp2_with fail
                refine TK.out.mono ?_
                rintro e w9 ⟨rfl, rfl⟩
                go_wp2
                go_roundw
                case rel => exact ⟨i + 1, by omega, by go_num, HRU.out.other hne1 _ _, by rw [HQ.out]; exact HAU.out.set _ _, HBU.out.setCell HLT.out _⟩
                case measure => simp [intOf]; omega
        · obtain rfl : i = n := by omega
          have hnb := nextF_bd (dpN l) (fun i => tkP (l.getD i stZ) p) rs i
          have hnl := nextF_len (dpN l) (fun i => tkP (l.getD i stZ) p) rs i
          generalize nextF (dpN l) (fun i => tkP (l.getD i stZ) p) rs i = ns at *
          have HNL := Lib.hid hnl
          have HNB := Lib.hid hnb
          clear hnb hnl
          go_wp2_with fail
          refine (rest_any A i cp wo.heap.size l ns _ hn (HS.out.below HBi.out) HAi.out HNL.out HNB.out (HLW.out _ HLT.out)).mono ?_
          rintro e w4 ⟨⟨v4, rfl⟩, hr4, hg4⟩
          have HA4 := Lib.hid hr4
          have HR4 : Hid (ArrB w.heap.size rs w4) := (hg4.block w.heap.size HRi.out.lt (fun e => hne1 (Option.some.inj e))).trans HRi.out
          have HB4 : Hid (Below w.heap.size w w4) := HBi.out.grown hg4 HBi.out.size (fun k e => by cases e; exact HLT.out)
          have hl4 : (restF (dpN l) i ns).length = 65 := by rw [restF_len, HNL.out]
          rw [← HST.out] at hl4
          have hA4 : w4.heap[wo.heap.size]? = some (.cells ((reachF l path (k + 1)).map (Value.int .i64)).toArray 61 (0, 0)) := by
            have := HA4.out
            unfold ArrB at this
            rw [this, HST.out]
          have HA5 := Lib.hid (arr_setRow (ms := reachF l path (k + 1)) HR4.out)
          have HB5 := Lib.hid (HB4.out.trans (below_setRow (g := w.heap.size) (Nat.le_refl _) w4 ((reachF l path (k + 1)).map (Value.int .i64)).toArray))
          have hi4 : (Tryd.prog.info? 61).map (·.size) = some ((reachF l path (k + 1)).map (Value.int .i64)).toArray.size := by rw [(zero_info Tryd.infoArr65).2]; simp [hl4]
          have ho4 : (rs.map (Value.int .i64)).toArray.size = ((reachF l path (k + 1)).map (Value.int .i64)).toArray.size := by simp [hl4, HRL.out]
          have h14 : ((reachF l path (k + 1)).map (Value.int .i64)).toArray.all (·.oneCell') = true := by simp [Value.oneCell']
          have HA6 := Lib.hid hA4
          generalize ((reachF l path (k + 1)).map (Value.int .i64)).toArray = CS at *
          have HI4 := Lib.hid hi4
          have HO4 := Lib.hid ho4
          have H14 := Lib.hid h14
          clear hr4 hg4 hl4 hA4 hi4 ho4 h14 HA4
          go_wp2_with (first
            | (refine wpList_load_row (o := ⟨some 54, _, _, _, _, _⟩) rfl 61 (.tmp 8) rfl wo.heap.size rfl 61 CS (0, 0) _ HA6.out Tryd.underlying61 rfl HI4.out ?_)
            | (refine wpList_store_row (o := ⟨none, .store 61 (.tmp 5) (.tmp 54), _, _, _, _⟩) rfl 61 (.tmp 5) (.tmp 54) rfl w.heap.size CS rfl rfl 61 _ HR4.out HI4.out HO4.out H14.out ?_))
          go_roundw
          case rel => exact ⟨k + 1, by omega, by go_num, HA5, HB5⟩
          case measure => simp [intOf]; omega
    · obtain rfl : k = m := by omega
      have c1 := HR.out.cell (i := n) (by rw [reachF_len]; omega)
      have hmt := HMT.out
      rw [HLN.out, HPN.out] at hmt
      unfold ps at hmt
      generalize (reachF l path k).getD n 0 = v0 at c1 hmt
      have HM := Lib.hid hmt
      clear hmt
      have e1 : (n : Int) < 65 := by omega
      go_wp2
      go_ret
      exact ⟨by rw [← HM.out]; rfl, HB.out⟩
set_option maxRecDepth 100000 in
set_option maxHeartbeats 1000000 in
theorem qmatch_any (A : Option Addr) (n cp : Nat) (l : List StN) (A' : Option Addr) (m cp' : Nat) (path : List ByteArray) (w : World) (hn : n ≤ 9223372036854775807) (hm : m ≤ 9223372036854775806) (hs : StsAt w A n l) (hp : TsAt w A' m path) :
    Calls Tryd.prog 9 #[.slice A n cp, .slice A' m cp'] w (BelB (matchN l path) w) := by
  by_cases h : n ≤ 64
  · exact match_in A n cp l A' m cp' path w h hm hs hp
  · have hf : matchN l path = false := by unfold matchN; rw [hs.1, decide_eq_false h, Bool.false_and]
    rw [hf]
    have t0 : (64 : Int) < (n : Int) := by omega
    clear hf hs hp h
    go_enter Tryd.func9, Tryd.ntmps9
    go_wp2
    go_ret
    exact ⟨rfl, Below.refl _ _⟩
end Go.Proofs.YtlifdmehejehjaaDoor
