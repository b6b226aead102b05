/- The contract of narthexref47.Match. Conditions: paths of at most 2^40 names. -/
import Derived.Test.YtlifdmehejehjaaDoorQMem
import Derived.OwnWalk
import Derived.Laws.OwnMore
import Derived.Deep.RegionHeld3
import Derived.IntWalk
namespace Go.Proofs.YtlifdmehejehjaaDoor
open Go.RowKit Go.Proofs.YtlifdmehejehjaaDoor.QPlain
set_option linter.unusedVariables false
set_option linter.unusedSimpArgs false
theorem Tryd.infoBoolQ : (Tryd.prog.info? 4).map (fun i => (i.zero, i.size, i.bytes)) = some (some (.bool false), 1, 1) := by kernel_rfl
def boolCellsQ (l : List Bool) : List Value := l.map Value.bool
theorem boolCellsQ_set (l : List Bool) (k : Nat) (v : Bool) : (boolCellsQ l).set k (.bool v) = boolCellsQ (l.set k v) := by unfold boolCellsQ; rw [List.map_set]
/-- The first k of m + 1 truths. -/
def upB (m : Nat) (f : Nat → Bool) (k : Nat) : List Bool := (List.range (m + 1)).map fun j => decide (j < k) && f j
theorem upB_len (m : Nat) (f : Nat → Bool) (k : Nat) : (upB m f k).length = m + 1 := by simp [upB]
theorem upB_zero (m : Nat) (f : Nat → Bool) : upB m f 0 = List.replicate (m + 1) false := by
  apply List.ext_getElem
  · simp [upB]
  · intro i h1 h2; simp [upB]
theorem upB_set (m : Nat) (f : Nat → Bool) (k : Nat) : (upB m f k).set k (f k) = upB m f (k + 1) := by
  apply List.ext_getElem
  · simp [upB]
  · intro i h1 h2
    rw [List.getElem_set]
    simp only [upB, List.getElem_map, List.getElem_range]
    by_cases h : k = i
    · subst h; simp
    · rw [if_neg h]
      congr 1
      rw [decide_eq_decide]
      omega
theorem upB_no (m : Nat) (f : Nat → Bool) (k : Nat) (h : f k = false) : upB m f k = upB m f (k + 1) := by
  rw [← upB_set, h]
  apply List.ext_getElem
  · simp
  · intro i h1 h2
    rw [List.getElem_set]
    simp only [upB, List.getElem_map, List.getElem_range]
    by_cases h' : k = i
    · subst h'; simp
    · rw [if_neg h']
theorem upB_at (m : Nat) (f : Nat → Bool) (k j : Nat) (hj : j < k) (hm : j ≤ m) : (boolCellsQ (upB m f k))[j]? = some (.bool (f j)) := by
  unfold boolCellsQ upB
  rw [List.getElem?_map, List.getElem?_map, List.getElem?_range (by omega)]
  simp [hj]
theorem own_upB {w : World} {base e T m k : Nat} {f : Nat → Bool} (h : w.ownsRow base e 1 (.slice (some ⟨T, 0, none⟩) (m + 1) (m + 1)) (m + 1) (boolCellsQ (upB m f k))) {j : Nat} (hj : j < k) (hm : j ≤ m) : w.cell? ⟨T, j, none⟩ = some (.bool (f j)) := by
  have := h.cells rfl j _ (upB_at m f k j hj hm)
  rwa [addGQ] at this
theorem own_anyB {w : World} {base e T m k : Nat} {f : Nat → Bool} (h : w.ownsRow base e 1 (.slice (some ⟨T, 0, none⟩) (m + 1) (m + 1)) (m + 1) (boolCellsQ (upB m f k))) {j : Nat} (hm : j ≤ m) : ∃ b, w.cell? ⟨T, j, none⟩ = some (.bool b) := by
  have := h.cells rfl j (.bool (decide (j < k) && f j)) (by unfold boolCellsQ upB; rw [List.getElem?_map, List.getElem?_map, List.getElem?_range (by omega)]; rfl)
  rw [addGQ] at this
  exact ⟨_, this⟩
theorem made_upB (m : Nat) (f : Nat → Bool) : (madeCells #[Value.bool false] (m + 1)).toList = boolCellsQ (upB m f 0) := by
  rw [upB_zero, toList_madeCells_one]
  simp [boolCellsQ]
theorem row_apart {w : World} {base e : Nat} {T g n c o : Nat} {xs : List Value} {v : Value} (h : w.ownsRow base e 1 (.slice (some ⟨T, 0, none⟩) n c) n xs) (hne : T ≠ g) : (w.setCell ⟨g, o, none⟩ v).ownsRow base e 1 (.slice (some ⟨T, 0, none⟩) n c) n xs :=
  h.kept (grownBy_setAny w ⟨g, o, none⟩ v) (.inr (fun e => hne (by simpa [Value.ownBlock] using e)))
theorem row_lt {w : World} {base e : Nat} {T n c : Nat} {xs : List Value} (h : w.ownsRow base e 1 (.slice (some ⟨T, 0, none⟩) n c) n xs) : base ≤ T ∧ T < w.heap.size := h.lt T rfl
set_option maxRecDepth 100000 in
set_option maxHeartbeats 4000000 in
theorem rmatch_in (A : Option Addr) (n cp : Nat) (l : List StN) (A' : Option Addr) (m cp' : Nat) (path : List ByteArray) (w : World) (hn : n ≤ 64) (hm : m ≤ 1099511627776) (hs : StsAt w A n l) (hp : TsAt w A' m path) :
    Calls Tryd.prog 11 #[.slice A n cp, .slice A' m cp'] w (BelB (matchN l path) w) := by
  obtain ⟨i0, hi0, hz0, hz1, hz2⟩ := info_parts Tryd.infoBoolQ
  have t0 : ¬ (64 : Int) < (n : Int) := by omega
  have hmt : matchN l path = mtN l path n m := by unfold matchN; rw [hs.1, hp.1, decide_eq_true (by omega), Bool.true_and]
  obtain ⟨b, hb⟩ : ∃ b, b = matchN l path := ⟨_, rfl⟩
  rw [← hb]
  rw [hmt] at hb
  have HM := Lib.hid hb
  have HS := Lib.hid hs
  have HP := Lib.hid hp
  clear hs hp hmt hb
  go_enter Tryd.func11, Tryd.ntmps11
  go_wp2_with (at_make; refine wpList_make_full _ rfl _ _ 66 rfl w.heap.size 4 i0 (.bool false) 1 Tryd.underlying66 hi0 hz0 hz1 .i64 .i64 _ _ (m + 1) rfl rfl (by omega) (by omega) ?m1 ?m2 ?m3 ?_)
  case m1 => omega
  case m2 => unfold maxLen; omega
  intro w1 hown hgrow
  rw [made_upB m (mtN l path 0)] at hown
  have HO := Lib.hid hown
  have c0 := own_anyB hown (j := 0) (by omega)
  obtain ⟨b0, c0⟩ := c0
  have f0 := hown.frozenAt 0
  have HB1 := Lib.hid ((Below.refl w.heap.size w).grown hgrow (by omega) (fun k h => by cases h))
  have hst := (hown.stored 0 (.bool true)).1
  rw [boolCellsQ_set, show (true : Bool) = mtN l path 0 0 from rfl, upB_set] at hst
  have HST := Lib.hid hst
  clear hown hgrow hst
  have HB2 := Lib.hid (HB1.out.setCell (p := ⟨w.heap.size, 0, none⟩) (Nat.le_refl _) (.bool true))
  have HR0 : Hid ((w1.setCell ⟨w.heap.size, 0, none⟩ (.bool true)).ownsRow w.heap.size 4 1 (.slice (some ⟨w.heap.size, 0, none⟩) (m + 1) (m + 1)) (m + 1) (boolCellsQ (upB m (mtN l path 0) (m + 1)))) := by
    have h := HST.out
    have hk : ∀ k, 0 < k → k ≤ m + 1 → upB m (mtN l path 0) 1 = upB m (mtN l path 0) k := by
      intro k h0
      induction k with
      | zero => omega
      | succ k ih =>
        intro h1
        rcases Nat.eq_zero_or_pos k with rfl | h2
        · rfl
        · rw [ih h2 (by omega)]
          exact upB_no m _ k (by show (k == 0) = false; simp; omega)
    rw [hk (m + 1) (by omega) (Nat.le_refl _)] at h
    exact h
  clear HST HO
  go_wp2
  generalize hW0 : w1.setCell ⟨w.heap.size, 0, none⟩ (.bool true) = W0 at *
  clear hW0 c0 f0 HB1
  have hne0 : w.heap.size ≤ w.heap.size := Nat.le_refl _
  go_loopw [5, 6] (fun v5 v6 wr => ∃ (i T : Nat), i ≤ n ∧ v5 = .slice (some ⟨T, 0, none⟩) (m + 1) (m + 1) ∧ v6 = .int .i64 i ∧ Hid (wr.ownsRow w.heap.size 4 1 (.slice (some ⟨T, 0, none⟩) (m + 1) (m + 1)) (m + 1) (boolCellsQ (upB m (mtN l path i) (m + 1)))) ∧ Hid (Below w.heap.size w wr)) (fun _ v6 _ => n - (intOf v6).toNat)
  case atStart => exact ⟨0, w.heap.size, Nat.zero_le _, rfl, rfl, HR0, HB2⟩
  case round =>
    obtain ⟨i, T, hi, rfl, rfl, HT, HB⟩ := hrel
    obtain ⟨wo, hwo⟩ : ∃ wo, wo = wr := ⟨_, rfl⟩
    subst hwo
    by_cases hlt : i < n
    · obtain ⟨a, x, rfl, hx, hal, h0, h1, h2⟩ := (HS.out.below HB.out).2 i hlt
      have d0 : (0 : Int) ≤ (i : Int) := by omega
      have d1 : (i : Int) < (n : Int) := by omega
      have hdp : dpN l i = x.deep := by unfold dpN; rw [List.getD_eq_getElem?_getD, hx]; rfl
      have hst : l.getD i stZ = x := by rw [List.getD_eq_getElem?_getD, hx]; rfl
      have hzz : mtN l path (i + 1) 0 = (x.deep && mtN l path i 0) := by rw [mt_zero, hdp]
      have hdeep : x.deep = true → ∀ k, mtN l path (i + 1) (k + 1) = (mtN l path i (k + 1) || mtN l path (i + 1) k) := fun h k => mt_deep (hdp.trans h) k
      have hflat : x.deep = false → ∀ k, mtN l path (i + 1) (k + 1) = (mtN l path i k && tkR x (path.getD k ⟨#[]⟩)) := fun h k => by rw [mt_flat (hdp.trans h) k, hst]
      have hal' : (a.add (i * 3)).block < w.heap.size := by
        obtain ⟨a2, x2, ha2, -, hl2, -⟩ := HS.out.2 i hlt
        cases ha2
        rw [addBlock]; exact hl2
      have hTl := row_lt HT.out
      generalize mtN l path i = fi at *
      generalize hfj : mtN l path (i + 1) = fj at *
      have HFJ := Lib.hid hfj
      clear hfj
      have HZ0 := Lib.hid hzz
      have HX := Lib.hid hx
      have HDE := Lib.hid hdeep
      have HFL := Lib.hid hflat
      clear hdp hst hzz hdeep hflat hx
      go_wp2_with (at_make; refine wpList_make_full _ rfl _ _ 66 rfl w.heap.size 4 i0 (.bool false) 1 Tryd.underlying66 hi0 hz0 hz1 .i64 .i64 _ _ (m + 1) rfl rfl (by omega) (by omega) ?m4 ?m5 HB.out.size ?_)
      case m4 => first | omega | (rw [hz2]; omega)
      case m5 => unfold maxLen; omega
      intro w2 hown hgrow
      rw [made_upB m fj] at hown
      have HN0 := Lib.hid hown
      have HT0 := Lib.hid (HT.out.kept hgrow (.inr (by simp [Value.ownBlock])))
      have HB0 := Lib.hid (HB.out.grown hgrow HB.out.size (fun k h => by cases h))
      have hTN : T ≠ wo.heap.size := by omega
      have g0 : ¬ T = wo.heap.size := hTN
      have g1 : ¬ wo.heap.size = T := fun h => hTN h.symm
      have hbN : w.heap.size ≤ wo.heap.size := HB.out.size
      clear hown hgrow HT HB
      go_wp2
      go_loopw [8] (fun v8 wr => ∃ (k : Nat), k ≤ m + 1 ∧ v8 = .int .i64 k ∧ Hid (wr.ownsRow w.heap.size 4 1 (.slice (some ⟨wo.heap.size, 0, none⟩) (m + 1) (m + 1)) (m + 1) (boolCellsQ (upB m fj k))) ∧ Hid (wr.ownsRow w.heap.size 4 1 (.slice (some ⟨T, 0, none⟩) (m + 1) (m + 1)) (m + 1) (boolCellsQ (upB m fi (m + 1)))) ∧ Hid (Below w.heap.size w wr)) (fun v8 _ => m + 1 - (intOf v8).toNat)
      case atStart => exact ⟨0, by omega, rfl, HN0, HT0, HB0⟩
      case round =>
        obtain ⟨k, hk, rfl, HN, HT, HB⟩ := hrel
        by_cases hkm : k ≤ m
        · have e0 : (0 : Int) ≤ (k : Int) := by omega
          have e1 : (k : Int) ≤ (m : Int) := by omega
          have e2 : (k : Int) < ((m : Int) + 1) := by omega
          have ek : k < m + 1 := by omega
          have cN : ∃ b, wr.cell? ⟨wo.heap.size, k, none⟩ = some (.bool b) := own_anyB HN.out (j := k) hkm
          obtain ⟨bN, cN⟩ := cN
          have fN := HN.out.frozenAt k
          have cT := own_upB HT.out (j := k) (by omega) hkm
          have hs1 := (HN.out.stored k (.bool (fj k))).1
          rw [boolCellsQ_set, upB_set] at hs1
          have HS1 := Lib.hid hs1
          have HST1 := Lib.hid (row_apart (o := k) (v := .bool (fj k)) HT.out g0)
          have HSB := Lib.hid (HB.out.setCell (p := ⟨wo.heap.size, k, none⟩) hbN (.bool (fj k)))
          clear hs1
          obtain ⟨a3, x3, ha3, hx3, -, h03, h13, h23⟩ := (HS.out.below HB.out).2 i hlt
          cases ha3
          rw [HX.out] at hx3
          cases hx3
          cases hd : x.deep with
          | true =>
            rw [hd] at h13
            have HD := Lib.hid hd
            rcases Nat.eq_zero_or_pos k with rfl | hk0
            · have hv : Hid (fj 0 = fi 0) := by show _ = _; rw [HZ0.out, hd]; rfl
              clear hd
              generalize fi 0 = bt at cT hv
              cases bt
              all_goals
                go_wp2
                go_roundw
                case rel => exact ⟨1, by omega, by go_num, by have h := HS1.out; rw [hv.out] at h; exact h, by have h := HST1.out; rw [hv.out] at h; exact h, by have h := HSB.out; rw [hv.out] at h; exact h⟩
                case measure => simp [intOf] <;> omega
            · obtain ⟨k', rfl⟩ : ∃ k', k = k' + 1 := ⟨k - 1, by omega⟩
              have cM := own_upB HN.out (j := k') (by omega) (by omega)
              have hv : Hid (fj (k' + 1) = (fi (k' + 1) || fj k')) := HDE.out hd k'
              have q0 : (0 : Int) ≤ (k' : Int) := by omega
              have q1 : ((k' + 1 : Nat) : Int) - 1 = (k' : Int) := by omega
              have q2 : (0 : Int) < ((k' + 1 : Nat) : Int) := by omega
              clear hd
              have q3 : ((k' : Int) + 1) < ((m : Int) + 1) := by omega
              have q4 : (k' : Int) < ((m : Int) + 1) := by omega
              have q5 : (0 : Int) ≤ (k' : Int) + 1 := by omega
              have q6 : (0 : Int) < (k' : Int) + 1 := by omega
              generalize hbt : fi (k' + 1) = bt at *
              clear hbt
              cases bt with
              | true =>
                have hvv : Hid (fj (k' + 1) = true) := by show _ = _; rw [hv.out]; rfl
                clear hv
                go_wp2
                go_roundw
                case rel => exact ⟨k' + 1 + 1, by omega, by go_num, by have h := HS1.out; rw [hvv.out] at h; exact h, by have h := HST1.out; rw [hvv.out] at h; exact h, by have h := HSB.out; rw [hvv.out] at h; exact h⟩
                case measure => simp [intOf] <;> omega
              | false =>
                have hvv : Hid (fj (k' + 1) = fj k') := by show _ = _; rw [hv.out]; rfl
                clear hv
                generalize hbt : fj k' = bj at *
                clear hbt
                go_wp2
                go_roundw
                case rel => exact ⟨k' + 1 + 1, by omega, by go_num, by have h := HS1.out; rw [hvv.out] at h; exact h, by have h := HST1.out; rw [hvv.out] at h; exact h, by have h := HSB.out; rw [hvv.out] at h; exact h⟩
                case measure => simp [intOf] <;> omega
          | false =>
            rw [hd] at h13
            rcases Nat.eq_zero_or_pos k with rfl | hk0
            · have hv : fj 0 = false := by rw [HZ0.out, hd]; rfl
              have HN1 := Lib.hid (show wr.ownsRow w.heap.size 4 1 (.slice (some ⟨wo.heap.size, 0, none⟩) (m + 1) (m + 1)) (m + 1) (boolCellsQ (upB m fj 1)) by rw [← upB_no m fj 0 hv]; exact HN.out)
              clear hd hv
              go_wp2
              go_roundw
              case rel => exact ⟨1, by omega, by go_num, HN1, HT, HB⟩
              case measure => simp [intOf] <;> omega
            · obtain ⟨k', rfl⟩ : ∃ k', k = k' + 1 := ⟨k - 1, by omega⟩
              have q0 : (0 : Int) ≤ (k' : Int) := by omega
              have q2 : (0 : Int) < ((k' + 1 : Nat) : Int) := by omega
              have cM := own_upB HT.out (j := k') (by omega) (by omega)
              obtain ⟨aP, p, hA', hpp, -, hcp⟩ := (HP.out.below HB.out).2 k' (by omega)
              have hv : Hid (fj (k' + 1) = (fi k' && tkR x p)) := by
                show _ = _
                rw [HFL.out hd k', List.getD_eq_getElem?_getD, hpp]; rfl
              clear hd hpp
              have q5 : (k' : Int) < (m : Int) + 1 := by omega
              have q7 : (0 : Int) ≤ (k' : Int) + 1 := by omega
              have q6 : (k' : Int) < (m : Int) := by omega
              have hwr : IntKind.i64.wrap (k' : Int) = (k' : Int) := IntWalk.i64_in _ (by omega)
              have hab : (⟨wo.heap.size, k' + 1, none⟩ : Addr) ≠ ⟨T, k', none⟩ := fun e => g1 (by injection e)
              have hac0 : (⟨wo.heap.size, k' + 1, none⟩ : Addr) ≠ a.add (i * 3) := fun e => by have := congrArg Addr.block e; dsimp only at this; omega
              have hac2 : (⟨wo.heap.size, k' + 1, none⟩ : Addr) ≠ ⟨(a.add (i * 3)).block, (a.add (i * 3)).off + 2, none⟩ := fun e => by have := congrArg Addr.block e; dsimp only at this; omega
              have hap : (⟨wo.heap.size, k' + 1, none⟩ : Addr) ≠ aP.add k' := fun e => by
                have h1 := congrArg Addr.block e
                obtain ⟨aP2, -, hA2, -, hl2, -⟩ := HP.out.2 k' (by omega)
                rw [hA'] at hA2; cases hA2
                dsimp only at h1
                rw [addBlock] at h1
                omega
              subst hA'
              go_wp2
              generalize hbt : fi k' = bt at *
              clear hbt
              have hb3 : bt = false ∨ (bt = true ∧ x.any = true) ∨ (bt = true ∧ x.any = false) := by cases bt <;> cases x.any <;> simp
              rcases hb3 with rfl | ⟨rfl, hany⟩ | ⟨rfl, hany⟩
              · have hvv : Hid (fj (k' + 1) = false) := by show _ = _; rw [hv.out]; rfl
                clear hv
                refine wp_region_held_drew (S := (fun w' => w'.cell? ⟨T, k', none⟩ = some (.bool false) ∧ w'.cell? (a.add (i * 3)) = some (.bool x.any) ∧ w'.cell? ⟨(a.add (i * 3)).block, (a.add (i * 3)).off + 2, none⟩ = some (.string x.nm) ∧ w'.cell? (aP.add k') = some (.string p))) (by kernel_rfl) ⟨cM, h03, h23, hcp⟩ (fun hHeld => ?_)
                --TAKES narthex/narthexref47.Match:15 0..7 -8..25 26 27
                refine wpAnyH_take (i := 0) (oi := ({ dst := some 59, op := Op.move (Operand.tmp 7), type := 66, pos := "ref.go:91", after := #[], guard := none } : Oper)) (v := ?_) rfl (by kernel_rfl) (by kernel_rfl) (by kernel_rfl) (fun _ _ _ h => h) (Or.inl ⟨by rfl, ?_⟩) (by assumption) ?_
                rotate_left 1
                · intro w hSw; (try dsimp only at hSw); go_simp; try with_reducible rfl
                (try simp only [Act.put, List.setIfInBounds_toArray, List.set_cons_zero, List.set_cons_succ])
                refine wpAnyH_take (i := 1) (oi := ({ dst := some 60, op := Op.move (Operand.tmp 8), type := 3, pos := "ref.go:91", after := #[], guard := none } : Oper)) (v := ?_) rfl (by kernel_rfl) (by kernel_rfl) (by kernel_rfl) (fun _ _ _ h => h) (Or.inl ⟨by rfl, ?_⟩) (by assumption) ?_
                rotate_left 1
                · intro w hSw; (try dsimp only at hSw); go_simp; try with_reducible rfl
                (try simp only [Act.put, List.setIfInBounds_toArray, List.set_cons_zero, List.set_cons_succ])
                refine wpAnyH_take (i := 2) (oi := ({ dst := some 61, op := Op.move (Operand.tmp 5), type := 66, pos := "ref.go:91", after := #[], guard := none } : Oper)) (v := ?_) rfl (by kernel_rfl) (by kernel_rfl) (by kernel_rfl) (fun _ _ _ h => h) (Or.inl ⟨by rfl, ?_⟩) (by assumption) ?_
                rotate_left 1
                · intro w hSw; (try dsimp only at hSw); go_simp; try with_reducible rfl
                (try simp only [Act.put, List.setIfInBounds_toArray, List.set_cons_zero, List.set_cons_succ])
                refine wpAnyH_take (i := 3) (oi := ({ dst := some 62, op := Op.move (Operand.tmp 8), type := 3, pos := "ref.go:91", after := #[], guard := none } : Oper)) (v := ?_) rfl (by kernel_rfl) (by kernel_rfl) (by kernel_rfl) (fun _ _ _ h => h) (Or.inl ⟨by rfl, ?_⟩) (by assumption) ?_
                rotate_left 1
                · intro w hSw; (try dsimp only at hSw); go_simp; try with_reducible rfl
                (try simp only [Act.put, List.setIfInBounds_toArray, List.set_cons_zero, List.set_cons_succ])
                refine wpAnyH_take (i := 4) (oi := ({ dst := some 63, op := Op.binOp BinOp.sub 3 (Operand.tmp 62) (Operand.const (Value.int IntKind.i64 1)) 3, type := 3, pos := "ref.go:91", after := #[{ on := 3, ground := Ground.data }], guard := none } : Oper)) (v := ?_) rfl (by kernel_rfl) (by kernel_rfl) (by kernel_rfl) (fun _ _ _ h => h) (Or.inl ⟨by rfl, ?_⟩) (by assumption) ?_
                rotate_left 1
                · intro w hSw; (try dsimp only at hSw); go_simp; try with_reducible rfl
                (try simp only [Act.put, List.setIfInBounds_toArray, List.set_cons_zero, List.set_cons_succ])
                refine wpAnyH_take (i := 5) (oi := ({ dst := some 64, op := Op.indexAddr 66 (Operand.tmp 61) (Operand.tmp 63), type := 0, pos := "ref.go:91", after := #[{ on := 2, ground := Ground.data }, { on := 4, ground := Ground.data }], guard := none } : Oper)) (v := ?_) rfl (by kernel_rfl) (by kernel_rfl) (by kernel_rfl) (fun _ _ _ h => h) (Or.inl ⟨by rfl, ?_⟩) (by assumption) ?_
                rotate_left 1
                · intro w hSw; (try dsimp only at hSw); go_simp; try with_reducible rfl
                (try simp only [Act.put, List.setIfInBounds_toArray, List.set_cons_zero, List.set_cons_succ])
                refine wpAnyH_take (i := 6) (oi := ({ dst := some 65, op := Op.load 4 (Operand.tmp 64), type := 4, pos := "ref.go:91", after := #[{ on := 5, ground := Ground.data }], guard := none } : Oper)) (v := ?_) rfl (by kernel_rfl) (by kernel_rfl) (by kernel_rfl) (fun _ _ _ h => h) (Or.inl ⟨by rfl, ?_⟩) (by assumption) ?_
                rotate_left 1
                · intro w hSw; (try dsimp only at hSw); go_simp; try with_reducible rfl
                (try simp only [Act.put, List.setIfInBounds_toArray, List.set_cons_zero, List.set_cons_succ])
                refine wpAnyH_take (i := 7) (oi := ({ dst := some 66, op := Op.move (Operand.tmp 65), type := 4, pos := "ref.go:91", after := #[{ on := 6, ground := Ground.data }], guard := none } : Oper)) (v := ?_) rfl (by kernel_rfl) (by kernel_rfl) (by kernel_rfl) (fun _ _ _ h => h) (Or.inl ⟨by rfl, ?_⟩) (by assumption) ?_
                rotate_left 1
                · intro w hSw; (try dsimp only at hSw); go_simp; try with_reducible rfl
                (try simp only [Act.put, List.setIfInBounds_toArray, List.set_cons_zero, List.set_cons_succ])
                refine wpAnyH_take (i := 8) (oi := ({ dst := some 67, op := Op.move (Operand.tmp 0), type := 22, pos := "ref.go:91", after := #[{ on := 7, ground := Ground.guard }], guard := some (7, true) } : Oper)) (v := undef) rfl (by kernel_rfl) (by kernel_rfl) (by kernel_rfl) (fun _ _ _ h => h) (Or.inr ⟨by rfl, rfl⟩) (by assumption) ?_
                (try simp only [Act.put, List.setIfInBounds_toArray, List.set_cons_zero, List.set_cons_succ])
                refine wpAnyH_take (i := 9) (oi := ({ dst := some 68, op := Op.move (Operand.tmp 6), type := 3, pos := "ref.go:91", after := #[{ on := 7, ground := Ground.guard }], guard := some (7, true) } : Oper)) (v := undef) rfl (by kernel_rfl) (by kernel_rfl) (by kernel_rfl) (fun _ _ _ h => h) (Or.inr ⟨by rfl, rfl⟩) (by assumption) ?_
                (try simp only [Act.put, List.setIfInBounds_toArray, List.set_cons_zero, List.set_cons_succ])
                refine wpAnyH_take (i := 10) (oi := ({ dst := some 69, op := Op.indexAddr 22 (Operand.tmp 67) (Operand.tmp 68), type := 0, pos := "ref.go:91", after := #[{ on := 8, ground := Ground.data }, { on := 9, ground := Ground.data }, { on := 7, ground := Ground.guard }], guard := some (7, true) } : Oper)) (v := undef) rfl (by kernel_rfl) (by kernel_rfl) (by kernel_rfl) (fun _ _ _ h => h) (Or.inr ⟨by rfl, rfl⟩) (by assumption) ?_
                (try simp only [Act.put, List.setIfInBounds_toArray, List.set_cons_zero, List.set_cons_succ])
                refine wpAnyH_take (i := 11) (oi := ({ dst := some 70, op := Op.fieldAddr 47 (Operand.tmp 69) 0, type := 0, pos := "ref.go:91", after := #[{ on := 10, ground := Ground.data }, { on := 7, ground := Ground.guard }], guard := some (7, true) } : Oper)) (v := undef) rfl (by kernel_rfl) (by kernel_rfl) (by kernel_rfl) (fun _ _ _ h => h) (Or.inr ⟨by rfl, rfl⟩) (by assumption) ?_
                (try simp only [Act.put, List.setIfInBounds_toArray, List.set_cons_zero, List.set_cons_succ])
                refine wpAnyH_take (i := 12) (oi := ({ dst := some 71, op := Op.load 4 (Operand.tmp 70), type := 4, pos := "ref.go:91", after := #[{ on := 11, ground := Ground.data }, { on := 7, ground := Ground.guard }], guard := some (7, true) } : Oper)) (v := undef) rfl (by kernel_rfl) (by kernel_rfl) (by kernel_rfl) (fun _ _ _ h => h) (Or.inr ⟨by rfl, rfl⟩) (by assumption) ?_
                (try simp only [Act.put, List.setIfInBounds_toArray, List.set_cons_zero, List.set_cons_succ])
                refine wpAnyH_take (i := 13) (oi := ({ dst := some 72, op := Op.move (Operand.tmp 71), type := 4, pos := "ref.go:91", after := #[{ on := 12, ground := Ground.data }, { on := 7, ground := Ground.chain }, { on := 7, ground := Ground.guard }], guard := some (7, true) } : Oper)) (v := undef) rfl (by kernel_rfl) (by kernel_rfl) (by kernel_rfl) (fun _ _ _ h => h) (Or.inr ⟨by rfl, rfl⟩) (by assumption) ?_
                (try simp only [Act.put, List.setIfInBounds_toArray, List.set_cons_zero, List.set_cons_succ])
                refine wpAnyH_take (i := 14) (oi := ({ dst := some 73, op := Op.move (Operand.tmp 0), type := 22, pos := "ref.go:91", after := #[{ on := 13, ground := Ground.guard }], guard := some (13, false) } : Oper)) (v := undef) rfl (by kernel_rfl) (by kernel_rfl) (by kernel_rfl) (fun _ _ _ h => h) (Or.inr ⟨by rfl, rfl⟩) (by assumption) ?_
                (try simp only [Act.put, List.setIfInBounds_toArray, List.set_cons_zero, List.set_cons_succ])
                refine wpAnyH_take (i := 15) (oi := ({ dst := some 74, op := Op.move (Operand.tmp 6), type := 3, pos := "ref.go:91", after := #[{ on := 13, ground := Ground.guard }], guard := some (13, false) } : Oper)) (v := undef) rfl (by kernel_rfl) (by kernel_rfl) (by kernel_rfl) (fun _ _ _ h => h) (Or.inr ⟨by rfl, rfl⟩) (by assumption) ?_
                (try simp only [Act.put, List.setIfInBounds_toArray, List.set_cons_zero, List.set_cons_succ])
                refine wpAnyH_take (i := 16) (oi := ({ dst := some 75, op := Op.indexAddr 22 (Operand.tmp 73) (Operand.tmp 74), type := 0, pos := "ref.go:91", after := #[{ on := 14, ground := Ground.data }, { on := 15, ground := Ground.data }, { on := 13, ground := Ground.guard }], guard := some (13, false) } : Oper)) (v := undef) rfl (by kernel_rfl) (by kernel_rfl) (by kernel_rfl) (fun _ _ _ h => h) (Or.inr ⟨by rfl, rfl⟩) (by assumption) ?_
                (try simp only [Act.put, List.setIfInBounds_toArray, List.set_cons_zero, List.set_cons_succ])
                refine wpAnyH_take (i := 17) (oi := ({ dst := some 76, op := Op.fieldAddr 47 (Operand.tmp 75) 2, type := 0, pos := "ref.go:91", after := #[{ on := 16, ground := Ground.data }, { on := 13, ground := Ground.guard }], guard := some (13, false) } : Oper)) (v := undef) rfl (by kernel_rfl) (by kernel_rfl) (by kernel_rfl) (fun _ _ _ h => h) (Or.inr ⟨by rfl, rfl⟩) (by assumption) ?_
                (try simp only [Act.put, List.setIfInBounds_toArray, List.set_cons_zero, List.set_cons_succ])
                refine wpAnyH_take (i := 18) (oi := ({ dst := some 77, op := Op.load 9 (Operand.tmp 76), type := 9, pos := "ref.go:91", after := #[{ on := 17, ground := Ground.data }, { on := 13, ground := Ground.guard }], guard := some (13, false) } : Oper)) (v := undef) rfl (by kernel_rfl) (by kernel_rfl) (by kernel_rfl) (fun _ _ _ h => h) (Or.inr ⟨by rfl, rfl⟩) (by assumption) ?_
                (try simp only [Act.put, List.setIfInBounds_toArray, List.set_cons_zero, List.set_cons_succ])
                refine wpAnyH_take (i := 19) (oi := ({ dst := some 78, op := Op.move (Operand.tmp 1), type := 23, pos := "ref.go:91", after := #[{ on := 13, ground := Ground.guard }], guard := some (13, false) } : Oper)) (v := undef) rfl (by kernel_rfl) (by kernel_rfl) (by kernel_rfl) (fun _ _ _ h => h) (Or.inr ⟨by rfl, rfl⟩) (by assumption) ?_
                (try simp only [Act.put, List.setIfInBounds_toArray, List.set_cons_zero, List.set_cons_succ])
                refine wpAnyH_take (i := 20) (oi := ({ dst := some 79, op := Op.move (Operand.tmp 8), type := 3, pos := "ref.go:91", after := #[{ on := 13, ground := Ground.guard }], guard := some (13, false) } : Oper)) (v := undef) rfl (by kernel_rfl) (by kernel_rfl) (by kernel_rfl) (fun _ _ _ h => h) (Or.inr ⟨by rfl, rfl⟩) (by assumption) ?_
                (try simp only [Act.put, List.setIfInBounds_toArray, List.set_cons_zero, List.set_cons_succ])
                refine wpAnyH_take (i := 21) (oi := ({ dst := some 80, op := Op.binOp BinOp.sub 3 (Operand.tmp 79) (Operand.const (Value.int IntKind.i64 1)) 3, type := 3, pos := "ref.go:91", after := #[{ on := 20, ground := Ground.data }, { on := 13, ground := Ground.guard }], guard := some (13, false) } : Oper)) (v := undef) rfl (by kernel_rfl) (by kernel_rfl) (by kernel_rfl) (fun _ _ _ h => h) (Or.inr ⟨by rfl, rfl⟩) (by assumption) ?_
                (try simp only [Act.put, List.setIfInBounds_toArray, List.set_cons_zero, List.set_cons_succ])
                refine wpAnyH_take (i := 22) (oi := ({ dst := some 81, op := Op.indexAddr 23 (Operand.tmp 78) (Operand.tmp 80), type := 0, pos := "ref.go:91", after := #[{ on := 19, ground := Ground.data }, { on := 21, ground := Ground.data }, { on := 13, ground := Ground.guard }], guard := some (13, false) } : Oper)) (v := undef) rfl (by kernel_rfl) (by kernel_rfl) (by kernel_rfl) (fun _ _ _ h => h) (Or.inr ⟨by rfl, rfl⟩) (by assumption) ?_
                (try simp only [Act.put, List.setIfInBounds_toArray, List.set_cons_zero, List.set_cons_succ])
                refine wpAnyH_take (i := 23) (oi := ({ dst := some 82, op := Op.load 9 (Operand.tmp 81), type := 9, pos := "ref.go:91", after := #[{ on := 22, ground := Ground.data }, { on := 13, ground := Ground.guard }], guard := some (13, false) } : Oper)) (v := undef) rfl (by kernel_rfl) (by kernel_rfl) (by kernel_rfl) (fun _ _ _ h => h) (Or.inr ⟨by rfl, rfl⟩) (by assumption) ?_
                (try simp only [Act.put, List.setIfInBounds_toArray, List.set_cons_zero, List.set_cons_succ])
                refine wpAnyH_take (i := 24) (oi := ({ dst := some 83, op := Op.binOp BinOp.eql 9 (Operand.tmp 77) (Operand.tmp 82) 9, type := 4, pos := "ref.go:91", after := #[{ on := 18, ground := Ground.data }, { on := 23, ground := Ground.data }, { on := 13, ground := Ground.guard }], guard := some (13, false) } : Oper)) (v := undef) rfl (by kernel_rfl) (by kernel_rfl) (by kernel_rfl) (fun _ _ _ h => h) (Or.inr ⟨by rfl, rfl⟩) (by assumption) ?_
                (try simp only [Act.put, List.setIfInBounds_toArray, List.set_cons_zero, List.set_cons_succ])
                refine wpAnyH_take (i := 25) (oi := ({ dst := some 84, op := Op.pick (Operand.tmp 72) (Operand.const (Value.bool true)) (Operand.tmp 83), type := 4, pos := "ref.go:91", after := #[{ on := 13, ground := Ground.data }, { on := 24, ground := Ground.data }, { on := 7, ground := Ground.guard }], guard := some (7, true) } : Oper)) (v := undef) rfl (by kernel_rfl) (by kernel_rfl) (by kernel_rfl) (fun _ _ _ h => h) (Or.inr ⟨by rfl, rfl⟩) (by assumption) ?_
                (try simp only [Act.put, List.setIfInBounds_toArray, List.set_cons_zero, List.set_cons_succ])
                refine wpAnyH_take (i := 26) (oi := ({ dst := some 85, op := Op.pick (Operand.tmp 66) (Operand.tmp 84) (Operand.const (Value.bool false)), type := 4, pos := "ref.go:91", after := #[{ on := 7, ground := Ground.data }, { on := 25, ground := Ground.data }], guard := none } : Oper)) (v := ?_) rfl (by kernel_rfl) (by kernel_rfl) (by kernel_rfl) (fun _ _ _ h => h) (Or.inl ⟨by rfl, ?_⟩) (by assumption) ?_
                rotate_left 1
                · intro w hSw; (try dsimp only at hSw); go_simp; try with_reducible rfl
                (try simp only [Act.put, List.setIfInBounds_toArray, List.set_cons_zero, List.set_cons_succ])
                refine wpAnyH_take (i := 27) (oi := ({ dst := some 86, op := Op.indexAddr 66 (Operand.tmp 59) (Operand.tmp 60), type := 0, pos := "ref.go:91", after := #[{ on := 0, ground := Ground.data }, { on := 1, ground := Ground.data }, { on := 0, ground := Ground.phase }, { on := 1, ground := Ground.phase }, { on := 2, ground := Ground.phase }, { on := 3, ground := Ground.phase }, { on := 4, ground := Ground.phase }, { on := 5, ground := Ground.phase }, { on := 6, ground := Ground.phase }, { on := 7, ground := Ground.phase }, { on := 8, ground := Ground.phase }, { on := 9, ground := Ground.phase }, { on := 10, ground := Ground.phase }, { on := 11, ground := Ground.phase }, { on := 12, ground := Ground.phase }, { on := 13, ground := Ground.phase }, { on := 14, ground := Ground.phase }, { on := 15, ground := Ground.phase }, { on := 16, ground := Ground.phase }, { on := 17, ground := Ground.phase }, { on := 18, ground := Ground.phase }, { on := 19, ground := Ground.phase }, { on := 20, ground := Ground.phase }, { on := 21, ground := Ground.phase }, { on := 22, ground := Ground.phase }, { on := 23, ground := Ground.phase }, { on := 24, ground := Ground.phase }, { on := 25, ground := Ground.phase }, { on := 26, ground := Ground.phase }], guard := none } : Oper)) (v := ?_) rfl (by kernel_rfl) (by kernel_rfl) (by kernel_rfl) (fun _ _ _ h => h) (Or.inl ⟨by rfl, ?_⟩) (by assumption) ?_
                rotate_left 1
                · intro w hSw; (try dsimp only at hSw); go_simp; try with_reducible rfl
                (try simp only [Act.put, List.setIfInBounds_toArray, List.set_cons_zero, List.set_cons_succ])
                --END
                refine wpAnyH_ready (rs := [28]) (by kernel_rfl) (by simp) ?_
                refine AllReadyH.cons (o := _) rfl (fun K hK => ?_) AllReadyH.nil
                go_simp
                refine hK.out _ _ ?_ (fun _ => ?_)
                · exact ⟨(World.cell?_setCell_other (w := wr) (h := hab) (v := .bool false)).trans cM, (World.cell?_setCell_other (w := wr) (h := hac0) (v := .bool false)).trans h03, (World.cell?_setCell_other (w := wr) (h := hac2) (v := .bool false)).trans h23, (World.cell?_setCell_other (w := wr) (h := hap) (v := .bool false)).trans hcp⟩
                clear hK K
                refine wpAnyH_done (by kernel_rfl) ?_ _
                have HE1 := Lib.hid (show (wr.setCell ⟨wo.heap.size, k' + 1, none⟩ (.bool false)).drew.ownsRow w.heap.size 4 1 (.slice (some ⟨wo.heap.size, 0, none⟩) (m + 1) (m + 1)) (m + 1) (boolCellsQ (upB m fj (k' + 1 + 1))) by have h := HS1.out; rw [hvv.out] at h; exact h)
                have HE2 := Lib.hid (show (wr.setCell ⟨wo.heap.size, k' + 1, none⟩ (.bool false)).drew.ownsRow w.heap.size 4 1 (.slice (some ⟨T, 0, none⟩) (m + 1) (m + 1)) (m + 1) (boolCellsQ (upB m fi (m + 1))) by have h := HST1.out; rw [hvv.out] at h; exact h)
                have HE3 := Lib.hid (show Below w.heap.size w (wr.setCell ⟨wo.heap.size, k' + 1, none⟩ (.bool false)).drew by have h := HSB.out; rw [hvv.out] at h; exact h.drew)
                generalize (wr.setCell ⟨wo.heap.size, k' + 1, none⟩ (.bool false)).drew = X at *
                go_wp2
                go_roundw
                case rel => exact ⟨k' + 1 + 1, by omega, by go_num, HE1, HE2, HE3⟩
                case measure => simp [intOf] <;> omega
              · have hvv : Hid (fj (k' + 1) = true) := by show _ = _; rw [hv.out]; unfold tkR; rw [hany]; rfl
                clear hv
                rw [hany] at h03
                refine wp_region_held_drew (S := (fun w' => w'.cell? ⟨T, k', none⟩ = some (.bool true)  ∧ w'.cell? (a.add (i * 3)) = some (.bool true) ∧ w'.cell? ⟨(a.add (i * 3)).block, (a.add (i * 3)).off + 2, none⟩ = some (.string x.nm) ∧ w'.cell? (aP.add k') = some (.string p))) (by kernel_rfl) ⟨cM, h03, h23, hcp⟩ (fun hHeld => ?_)
                --TAKES narthex/narthexref47.Match:15 0..13 -14..24 25 26 27
                refine wpAnyH_take (i := 0) (oi := ({ dst := some 59, op := Op.move (Operand.tmp 7), type := 66, pos := "ref.go:91", after := #[], guard := none } : Oper)) (v := ?_) rfl (by kernel_rfl) (by kernel_rfl) (by kernel_rfl) (fun _ _ _ h => h) (Or.inl ⟨by rfl, ?_⟩) (by assumption) ?_
                rotate_left 1
                · intro w hSw; (try dsimp only at hSw); go_simp; try with_reducible rfl
                (try simp only [Act.put, List.setIfInBounds_toArray, List.set_cons_zero, List.set_cons_succ])
                refine wpAnyH_take (i := 1) (oi := ({ dst := some 60, op := Op.move (Operand.tmp 8), type := 3, pos := "ref.go:91", after := #[], guard := none } : Oper)) (v := ?_) rfl (by kernel_rfl) (by kernel_rfl) (by kernel_rfl) (fun _ _ _ h => h) (Or.inl ⟨by rfl, ?_⟩) (by assumption) ?_
                rotate_left 1
                · intro w hSw; (try dsimp only at hSw); go_simp; try with_reducible rfl
                (try simp only [Act.put, List.setIfInBounds_toArray, List.set_cons_zero, List.set_cons_succ])
                refine wpAnyH_take (i := 2) (oi := ({ dst := some 61, op := Op.move (Operand.tmp 5), type := 66, pos := "ref.go:91", after := #[], guard := none } : Oper)) (v := ?_) rfl (by kernel_rfl) (by kernel_rfl) (by kernel_rfl) (fun _ _ _ h => h) (Or.inl ⟨by rfl, ?_⟩) (by assumption) ?_
                rotate_left 1
                · intro w hSw; (try dsimp only at hSw); go_simp; try with_reducible rfl
                (try simp only [Act.put, List.setIfInBounds_toArray, List.set_cons_zero, List.set_cons_succ])
                refine wpAnyH_take (i := 3) (oi := ({ dst := some 62, op := Op.move (Operand.tmp 8), type := 3, pos := "ref.go:91", after := #[], guard := none } : Oper)) (v := ?_) rfl (by kernel_rfl) (by kernel_rfl) (by kernel_rfl) (fun _ _ _ h => h) (Or.inl ⟨by rfl, ?_⟩) (by assumption) ?_
                rotate_left 1
                · intro w hSw; (try dsimp only at hSw); go_simp; try with_reducible rfl
                (try simp only [Act.put, List.setIfInBounds_toArray, List.set_cons_zero, List.set_cons_succ])
                refine wpAnyH_take (i := 4) (oi := ({ dst := some 63, op := Op.binOp BinOp.sub 3 (Operand.tmp 62) (Operand.const (Value.int IntKind.i64 1)) 3, type := 3, pos := "ref.go:91", after := #[{ on := 3, ground := Ground.data }], guard := none } : Oper)) (v := ?_) rfl (by kernel_rfl) (by kernel_rfl) (by kernel_rfl) (fun _ _ _ h => h) (Or.inl ⟨by rfl, ?_⟩) (by assumption) ?_
                rotate_left 1
                · intro w hSw; (try dsimp only at hSw); go_simp; try with_reducible rfl
                (try simp only [Act.put, List.setIfInBounds_toArray, List.set_cons_zero, List.set_cons_succ])
                refine wpAnyH_take (i := 5) (oi := ({ dst := some 64, op := Op.indexAddr 66 (Operand.tmp 61) (Operand.tmp 63), type := 0, pos := "ref.go:91", after := #[{ on := 2, ground := Ground.data }, { on := 4, ground := Ground.data }], guard := none } : Oper)) (v := ?_) rfl (by kernel_rfl) (by kernel_rfl) (by kernel_rfl) (fun _ _ _ h => h) (Or.inl ⟨by rfl, ?_⟩) (by assumption) ?_
                rotate_left 1
                · intro w hSw; (try dsimp only at hSw); go_simp; try with_reducible rfl
                (try simp only [Act.put, List.setIfInBounds_toArray, List.set_cons_zero, List.set_cons_succ])
                refine wpAnyH_take (i := 6) (oi := ({ dst := some 65, op := Op.load 4 (Operand.tmp 64), type := 4, pos := "ref.go:91", after := #[{ on := 5, ground := Ground.data }], guard := none } : Oper)) (v := ?_) rfl (by kernel_rfl) (by kernel_rfl) (by kernel_rfl) (fun _ _ _ h => h) (Or.inl ⟨by rfl, ?_⟩) (by assumption) ?_
                rotate_left 1
                · intro w hSw; (try dsimp only at hSw); go_simp; try with_reducible rfl
                (try simp only [Act.put, List.setIfInBounds_toArray, List.set_cons_zero, List.set_cons_succ])
                refine wpAnyH_take (i := 7) (oi := ({ dst := some 66, op := Op.move (Operand.tmp 65), type := 4, pos := "ref.go:91", after := #[{ on := 6, ground := Ground.data }], guard := none } : Oper)) (v := ?_) rfl (by kernel_rfl) (by kernel_rfl) (by kernel_rfl) (fun _ _ _ h => h) (Or.inl ⟨by rfl, ?_⟩) (by assumption) ?_
                rotate_left 1
                · intro w hSw; (try dsimp only at hSw); go_simp; try with_reducible rfl
                (try simp only [Act.put, List.setIfInBounds_toArray, List.set_cons_zero, List.set_cons_succ])
                refine wpAnyH_take (i := 8) (oi := ({ dst := some 67, op := Op.move (Operand.tmp 0), type := 22, pos := "ref.go:91", after := #[{ on := 7, ground := Ground.guard }], guard := some (7, true) } : Oper)) (v := ?_) rfl (by kernel_rfl) (by kernel_rfl) (by kernel_rfl) (fun _ _ _ h => h) (Or.inl ⟨by rfl, ?_⟩) (by assumption) ?_
                rotate_left 1
                · intro w hSw; (try dsimp only at hSw); go_simp; try with_reducible rfl
                (try simp only [Act.put, List.setIfInBounds_toArray, List.set_cons_zero, List.set_cons_succ])
                refine wpAnyH_take (i := 9) (oi := ({ dst := some 68, op := Op.move (Operand.tmp 6), type := 3, pos := "ref.go:91", after := #[{ on := 7, ground := Ground.guard }], guard := some (7, true) } : Oper)) (v := ?_) rfl (by kernel_rfl) (by kernel_rfl) (by kernel_rfl) (fun _ _ _ h => h) (Or.inl ⟨by rfl, ?_⟩) (by assumption) ?_
                rotate_left 1
                · intro w hSw; (try dsimp only at hSw); go_simp; try with_reducible rfl
                (try simp only [Act.put, List.setIfInBounds_toArray, List.set_cons_zero, List.set_cons_succ])
                refine wpAnyH_take (i := 10) (oi := ({ dst := some 69, op := Op.indexAddr 22 (Operand.tmp 67) (Operand.tmp 68), type := 0, pos := "ref.go:91", after := #[{ on := 8, ground := Ground.data }, { on := 9, ground := Ground.data }, { on := 7, ground := Ground.guard }], guard := some (7, true) } : Oper)) (v := ?_) rfl (by kernel_rfl) (by kernel_rfl) (by kernel_rfl) (fun _ _ _ h => h) (Or.inl ⟨by rfl, ?_⟩) (by assumption) ?_
                rotate_left 1
                · intro w hSw; (try dsimp only at hSw); go_simp; try with_reducible rfl
                (try simp only [Act.put, List.setIfInBounds_toArray, List.set_cons_zero, List.set_cons_succ])
                refine wpAnyH_take (i := 11) (oi := ({ dst := some 70, op := Op.fieldAddr 47 (Operand.tmp 69) 0, type := 0, pos := "ref.go:91", after := #[{ on := 10, ground := Ground.data }, { on := 7, ground := Ground.guard }], guard := some (7, true) } : Oper)) (v := ?_) rfl (by kernel_rfl) (by kernel_rfl) (by kernel_rfl) (fun _ _ _ h => h) (Or.inl ⟨by rfl, ?_⟩) (by assumption) ?_
                rotate_left 1
                · intro w hSw; (try dsimp only at hSw); go_simp; try with_reducible rfl
                (try simp only [Act.put, List.setIfInBounds_toArray, List.set_cons_zero, List.set_cons_succ])
                refine wpAnyH_take (i := 12) (oi := ({ dst := some 71, op := Op.load 4 (Operand.tmp 70), type := 4, pos := "ref.go:91", after := #[{ on := 11, ground := Ground.data }, { on := 7, ground := Ground.guard }], guard := some (7, true) } : Oper)) (v := ?_) rfl (by kernel_rfl) (by kernel_rfl) (by kernel_rfl) (fun _ _ _ h => h) (Or.inl ⟨by rfl, ?_⟩) (by assumption) ?_
                rotate_left 1
                · intro w hSw; (try dsimp only at hSw); go_simp; try with_reducible rfl
                (try simp only [Act.put, List.setIfInBounds_toArray, List.set_cons_zero, List.set_cons_succ])
                refine wpAnyH_take (i := 13) (oi := ({ dst := some 72, op := Op.move (Operand.tmp 71), type := 4, pos := "ref.go:91", after := #[{ on := 12, ground := Ground.data }, { on := 7, ground := Ground.chain }, { on := 7, ground := Ground.guard }], guard := some (7, true) } : Oper)) (v := ?_) rfl (by kernel_rfl) (by kernel_rfl) (by kernel_rfl) (fun _ _ _ h => h) (Or.inl ⟨by rfl, ?_⟩) (by assumption) ?_
                rotate_left 1
                · intro w hSw; (try dsimp only at hSw); go_simp; try with_reducible rfl
                (try simp only [Act.put, List.setIfInBounds_toArray, List.set_cons_zero, List.set_cons_succ])
                refine wpAnyH_take (i := 14) (oi := ({ dst := some 73, op := Op.move (Operand.tmp 0), type := 22, pos := "ref.go:91", after := #[{ on := 13, ground := Ground.guard }], guard := some (13, false) } : Oper)) (v := undef) rfl (by kernel_rfl) (by kernel_rfl) (by kernel_rfl) (fun _ _ _ h => h) (Or.inr ⟨by rfl, rfl⟩) (by assumption) ?_
                (try simp only [Act.put, List.setIfInBounds_toArray, List.set_cons_zero, List.set_cons_succ])
                refine wpAnyH_take (i := 15) (oi := ({ dst := some 74, op := Op.move (Operand.tmp 6), type := 3, pos := "ref.go:91", after := #[{ on := 13, ground := Ground.guard }], guard := some (13, false) } : Oper)) (v := undef) rfl (by kernel_rfl) (by kernel_rfl) (by kernel_rfl) (fun _ _ _ h => h) (Or.inr ⟨by rfl, rfl⟩) (by assumption) ?_
                (try simp only [Act.put, List.setIfInBounds_toArray, List.set_cons_zero, List.set_cons_succ])
                refine wpAnyH_take (i := 16) (oi := ({ dst := some 75, op := Op.indexAddr 22 (Operand.tmp 73) (Operand.tmp 74), type := 0, pos := "ref.go:91", after := #[{ on := 14, ground := Ground.data }, { on := 15, ground := Ground.data }, { on := 13, ground := Ground.guard }], guard := some (13, false) } : Oper)) (v := undef) rfl (by kernel_rfl) (by kernel_rfl) (by kernel_rfl) (fun _ _ _ h => h) (Or.inr ⟨by rfl, rfl⟩) (by assumption) ?_
                (try simp only [Act.put, List.setIfInBounds_toArray, List.set_cons_zero, List.set_cons_succ])
                refine wpAnyH_take (i := 17) (oi := ({ dst := some 76, op := Op.fieldAddr 47 (Operand.tmp 75) 2, type := 0, pos := "ref.go:91", after := #[{ on := 16, ground := Ground.data }, { on := 13, ground := Ground.guard }], guard := some (13, false) } : Oper)) (v := undef) rfl (by kernel_rfl) (by kernel_rfl) (by kernel_rfl) (fun _ _ _ h => h) (Or.inr ⟨by rfl, rfl⟩) (by assumption) ?_
                (try simp only [Act.put, List.setIfInBounds_toArray, List.set_cons_zero, List.set_cons_succ])
                refine wpAnyH_take (i := 18) (oi := ({ dst := some 77, op := Op.load 9 (Operand.tmp 76), type := 9, pos := "ref.go:91", after := #[{ on := 17, ground := Ground.data }, { on := 13, ground := Ground.guard }], guard := some (13, false) } : Oper)) (v := undef) rfl (by kernel_rfl) (by kernel_rfl) (by kernel_rfl) (fun _ _ _ h => h) (Or.inr ⟨by rfl, rfl⟩) (by assumption) ?_
                (try simp only [Act.put, List.setIfInBounds_toArray, List.set_cons_zero, List.set_cons_succ])
                refine wpAnyH_take (i := 19) (oi := ({ dst := some 78, op := Op.move (Operand.tmp 1), type := 23, pos := "ref.go:91", after := #[{ on := 13, ground := Ground.guard }], guard := some (13, false) } : Oper)) (v := undef) rfl (by kernel_rfl) (by kernel_rfl) (by kernel_rfl) (fun _ _ _ h => h) (Or.inr ⟨by rfl, rfl⟩) (by assumption) ?_
                (try simp only [Act.put, List.setIfInBounds_toArray, List.set_cons_zero, List.set_cons_succ])
                refine wpAnyH_take (i := 20) (oi := ({ dst := some 79, op := Op.move (Operand.tmp 8), type := 3, pos := "ref.go:91", after := #[{ on := 13, ground := Ground.guard }], guard := some (13, false) } : Oper)) (v := undef) rfl (by kernel_rfl) (by kernel_rfl) (by kernel_rfl) (fun _ _ _ h => h) (Or.inr ⟨by rfl, rfl⟩) (by assumption) ?_
                (try simp only [Act.put, List.setIfInBounds_toArray, List.set_cons_zero, List.set_cons_succ])
                refine wpAnyH_take (i := 21) (oi := ({ dst := some 80, op := Op.binOp BinOp.sub 3 (Operand.tmp 79) (Operand.const (Value.int IntKind.i64 1)) 3, type := 3, pos := "ref.go:91", after := #[{ on := 20, ground := Ground.data }, { on := 13, ground := Ground.guard }], guard := some (13, false) } : Oper)) (v := undef) rfl (by kernel_rfl) (by kernel_rfl) (by kernel_rfl) (fun _ _ _ h => h) (Or.inr ⟨by rfl, rfl⟩) (by assumption) ?_
                (try simp only [Act.put, List.setIfInBounds_toArray, List.set_cons_zero, List.set_cons_succ])
                refine wpAnyH_take (i := 22) (oi := ({ dst := some 81, op := Op.indexAddr 23 (Operand.tmp 78) (Operand.tmp 80), type := 0, pos := "ref.go:91", after := #[{ on := 19, ground := Ground.data }, { on := 21, ground := Ground.data }, { on := 13, ground := Ground.guard }], guard := some (13, false) } : Oper)) (v := undef) rfl (by kernel_rfl) (by kernel_rfl) (by kernel_rfl) (fun _ _ _ h => h) (Or.inr ⟨by rfl, rfl⟩) (by assumption) ?_
                (try simp only [Act.put, List.setIfInBounds_toArray, List.set_cons_zero, List.set_cons_succ])
                refine wpAnyH_take (i := 23) (oi := ({ dst := some 82, op := Op.load 9 (Operand.tmp 81), type := 9, pos := "ref.go:91", after := #[{ on := 22, ground := Ground.data }, { on := 13, ground := Ground.guard }], guard := some (13, false) } : Oper)) (v := undef) rfl (by kernel_rfl) (by kernel_rfl) (by kernel_rfl) (fun _ _ _ h => h) (Or.inr ⟨by rfl, rfl⟩) (by assumption) ?_
                (try simp only [Act.put, List.setIfInBounds_toArray, List.set_cons_zero, List.set_cons_succ])
                refine wpAnyH_take (i := 24) (oi := ({ dst := some 83, op := Op.binOp BinOp.eql 9 (Operand.tmp 77) (Operand.tmp 82) 9, type := 4, pos := "ref.go:91", after := #[{ on := 18, ground := Ground.data }, { on := 23, ground := Ground.data }, { on := 13, ground := Ground.guard }], guard := some (13, false) } : Oper)) (v := undef) rfl (by kernel_rfl) (by kernel_rfl) (by kernel_rfl) (fun _ _ _ h => h) (Or.inr ⟨by rfl, rfl⟩) (by assumption) ?_
                (try simp only [Act.put, List.setIfInBounds_toArray, List.set_cons_zero, List.set_cons_succ])
                refine wpAnyH_take (i := 25) (oi := ({ dst := some 84, op := Op.pick (Operand.tmp 72) (Operand.const (Value.bool true)) (Operand.tmp 83), type := 4, pos := "ref.go:91", after := #[{ on := 13, ground := Ground.data }, { on := 24, ground := Ground.data }, { on := 7, ground := Ground.guard }], guard := some (7, true) } : Oper)) (v := ?_) rfl (by kernel_rfl) (by kernel_rfl) (by kernel_rfl) (fun _ _ _ h => h) (Or.inl ⟨by rfl, ?_⟩) (by assumption) ?_
                rotate_left 1
                · intro w hSw; (try dsimp only at hSw); go_simp; try with_reducible rfl
                (try simp only [Act.put, List.setIfInBounds_toArray, List.set_cons_zero, List.set_cons_succ])
                refine wpAnyH_take (i := 26) (oi := ({ dst := some 85, op := Op.pick (Operand.tmp 66) (Operand.tmp 84) (Operand.const (Value.bool false)), type := 4, pos := "ref.go:91", after := #[{ on := 7, ground := Ground.data }, { on := 25, ground := Ground.data }], guard := none } : Oper)) (v := ?_) rfl (by kernel_rfl) (by kernel_rfl) (by kernel_rfl) (fun _ _ _ h => h) (Or.inl ⟨by rfl, ?_⟩) (by assumption) ?_
                rotate_left 1
                · intro w hSw; (try dsimp only at hSw); go_simp; try with_reducible rfl
                (try simp only [Act.put, List.setIfInBounds_toArray, List.set_cons_zero, List.set_cons_succ])
                refine wpAnyH_take (i := 27) (oi := ({ dst := some 86, op := Op.indexAddr 66 (Operand.tmp 59) (Operand.tmp 60), type := 0, pos := "ref.go:91", after := #[{ on := 0, ground := Ground.data }, { on := 1, ground := Ground.data }, { on := 0, ground := Ground.phase }, { on := 1, ground := Ground.phase }, { on := 2, ground := Ground.phase }, { on := 3, ground := Ground.phase }, { on := 4, ground := Ground.phase }, { on := 5, ground := Ground.phase }, { on := 6, ground := Ground.phase }, { on := 7, ground := Ground.phase }, { on := 8, ground := Ground.phase }, { on := 9, ground := Ground.phase }, { on := 10, ground := Ground.phase }, { on := 11, ground := Ground.phase }, { on := 12, ground := Ground.phase }, { on := 13, ground := Ground.phase }, { on := 14, ground := Ground.phase }, { on := 15, ground := Ground.phase }, { on := 16, ground := Ground.phase }, { on := 17, ground := Ground.phase }, { on := 18, ground := Ground.phase }, { on := 19, ground := Ground.phase }, { on := 20, ground := Ground.phase }, { on := 21, ground := Ground.phase }, { on := 22, ground := Ground.phase }, { on := 23, ground := Ground.phase }, { on := 24, ground := Ground.phase }, { on := 25, ground := Ground.phase }, { on := 26, ground := Ground.phase }], guard := none } : Oper)) (v := ?_) rfl (by kernel_rfl) (by kernel_rfl) (by kernel_rfl) (fun _ _ _ h => h) (Or.inl ⟨by rfl, ?_⟩) (by assumption) ?_
                rotate_left 1
                · intro w hSw; (try dsimp only at hSw); go_simp; try with_reducible rfl
                (try simp only [Act.put, List.setIfInBounds_toArray, List.set_cons_zero, List.set_cons_succ])
                --END
                refine wpAnyH_ready (rs := [28]) (by kernel_rfl) (by simp) ?_
                refine AllReadyH.cons (o := _) rfl (fun K hK => ?_) AllReadyH.nil
                go_simp
                refine hK.out _ _ ?_ (fun _ => ?_)
                · exact ⟨(World.cell?_setCell_other (w := wr) (h := hab) (v := .bool true)).trans cM, (World.cell?_setCell_other (w := wr) (h := hac0) (v := .bool true)).trans h03, (World.cell?_setCell_other (w := wr) (h := hac2) (v := .bool true)).trans h23, (World.cell?_setCell_other (w := wr) (h := hap) (v := .bool true)).trans hcp⟩
                clear hK K
                refine wpAnyH_done (by kernel_rfl) ?_ _
                have HE1 := Lib.hid (show (wr.setCell ⟨wo.heap.size, k' + 1, none⟩ (.bool true)).drew.ownsRow w.heap.size 4 1 (.slice (some ⟨wo.heap.size, 0, none⟩) (m + 1) (m + 1)) (m + 1) (boolCellsQ (upB m fj (k' + 1 + 1))) by have h := HS1.out; rw [hvv.out] at h; exact h)
                have HE2 := Lib.hid (show (wr.setCell ⟨wo.heap.size, k' + 1, none⟩ (.bool true)).drew.ownsRow w.heap.size 4 1 (.slice (some ⟨T, 0, none⟩) (m + 1) (m + 1)) (m + 1) (boolCellsQ (upB m fi (m + 1))) by have h := HST1.out; rw [hvv.out] at h; exact h)
                have HE3 := Lib.hid (show Below w.heap.size w (wr.setCell ⟨wo.heap.size, k' + 1, none⟩ (.bool true)).drew by have h := HSB.out; rw [hvv.out] at h; exact h.drew)
                generalize (wr.setCell ⟨wo.heap.size, k' + 1, none⟩ (.bool true)).drew = X at *
                go_wp2
                go_roundw
                case rel => exact ⟨k' + 1 + 1, by omega, by go_num, HE1, HE2, HE3⟩
                case measure => simp [intOf] <;> omega
              · have hvv : Hid (fj (k' + 1) = (x.nm.toList == p.toList)) := by
                  show _ = _
                  rw [hv.out]; unfold tkR; rw [hany, Bool.true_and, Bool.false_or]
                  by_cases h : x.nm = p
                  · rw [h]; simp
                  · rw [decide_eq_false h, sL_no h]
                clear hv
                rw [hany] at h03
                refine wp_region_held_drew (S := (fun w' => w'.cell? ⟨T, k', none⟩ = some (.bool true)  ∧ w'.cell? (a.add (i * 3)) = some (.bool false) ∧ w'.cell? ⟨(a.add (i * 3)).block, (a.add (i * 3)).off + 2, none⟩ = some (.string x.nm) ∧ w'.cell? (aP.add k') = some (.string p))) (by kernel_rfl) ⟨cM, h03, h23, hcp⟩ (fun hHeld => ?_)
                --TAKES narthex/narthexref47.Match:15 0..27
                refine wpAnyH_take (i := 0) (oi := ({ dst := some 59, op := Op.move (Operand.tmp 7), type := 66, pos := "ref.go:91", after := #[], guard := none } : Oper)) (v := ?_) rfl (by kernel_rfl) (by kernel_rfl) (by kernel_rfl) (fun _ _ _ h => h) (Or.inl ⟨by rfl, ?_⟩) (by assumption) ?_
                rotate_left 1
                · intro w hSw; (try dsimp only at hSw); go_simp; try with_reducible rfl
                (try simp only [Act.put, List.setIfInBounds_toArray, List.set_cons_zero, List.set_cons_succ])
                refine wpAnyH_take (i := 1) (oi := ({ dst := some 60, op := Op.move (Operand.tmp 8), type := 3, pos := "ref.go:91", after := #[], guard := none } : Oper)) (v := ?_) rfl (by kernel_rfl) (by kernel_rfl) (by kernel_rfl) (fun _ _ _ h => h) (Or.inl ⟨by rfl, ?_⟩) (by assumption) ?_
                rotate_left 1
                · intro w hSw; (try dsimp only at hSw); go_simp; try with_reducible rfl
                (try simp only [Act.put, List.setIfInBounds_toArray, List.set_cons_zero, List.set_cons_succ])
                refine wpAnyH_take (i := 2) (oi := ({ dst := some 61, op := Op.move (Operand.tmp 5), type := 66, pos := "ref.go:91", after := #[], guard := none } : Oper)) (v := ?_) rfl (by kernel_rfl) (by kernel_rfl) (by kernel_rfl) (fun _ _ _ h => h) (Or.inl ⟨by rfl, ?_⟩) (by assumption) ?_
                rotate_left 1
                · intro w hSw; (try dsimp only at hSw); go_simp; try with_reducible rfl
                (try simp only [Act.put, List.setIfInBounds_toArray, List.set_cons_zero, List.set_cons_succ])
                refine wpAnyH_take (i := 3) (oi := ({ dst := some 62, op := Op.move (Operand.tmp 8), type := 3, pos := "ref.go:91", after := #[], guard := none } : Oper)) (v := ?_) rfl (by kernel_rfl) (by kernel_rfl) (by kernel_rfl) (fun _ _ _ h => h) (Or.inl ⟨by rfl, ?_⟩) (by assumption) ?_
                rotate_left 1
                · intro w hSw; (try dsimp only at hSw); go_simp; try with_reducible rfl
                (try simp only [Act.put, List.setIfInBounds_toArray, List.set_cons_zero, List.set_cons_succ])
                refine wpAnyH_take (i := 4) (oi := ({ dst := some 63, op := Op.binOp BinOp.sub 3 (Operand.tmp 62) (Operand.const (Value.int IntKind.i64 1)) 3, type := 3, pos := "ref.go:91", after := #[{ on := 3, ground := Ground.data }], guard := none } : Oper)) (v := ?_) rfl (by kernel_rfl) (by kernel_rfl) (by kernel_rfl) (fun _ _ _ h => h) (Or.inl ⟨by rfl, ?_⟩) (by assumption) ?_
                rotate_left 1
                · intro w hSw; (try dsimp only at hSw); go_simp; try with_reducible rfl
                (try simp only [Act.put, List.setIfInBounds_toArray, List.set_cons_zero, List.set_cons_succ])
                refine wpAnyH_take (i := 5) (oi := ({ dst := some 64, op := Op.indexAddr 66 (Operand.tmp 61) (Operand.tmp 63), type := 0, pos := "ref.go:91", after := #[{ on := 2, ground := Ground.data }, { on := 4, ground := Ground.data }], guard := none } : Oper)) (v := ?_) rfl (by kernel_rfl) (by kernel_rfl) (by kernel_rfl) (fun _ _ _ h => h) (Or.inl ⟨by rfl, ?_⟩) (by assumption) ?_
                rotate_left 1
                · intro w hSw; (try dsimp only at hSw); go_simp; try with_reducible rfl
                (try simp only [Act.put, List.setIfInBounds_toArray, List.set_cons_zero, List.set_cons_succ])
                refine wpAnyH_take (i := 6) (oi := ({ dst := some 65, op := Op.load 4 (Operand.tmp 64), type := 4, pos := "ref.go:91", after := #[{ on := 5, ground := Ground.data }], guard := none } : Oper)) (v := ?_) rfl (by kernel_rfl) (by kernel_rfl) (by kernel_rfl) (fun _ _ _ h => h) (Or.inl ⟨by rfl, ?_⟩) (by assumption) ?_
                rotate_left 1
                · intro w hSw; (try dsimp only at hSw); go_simp; try with_reducible rfl
                (try simp only [Act.put, List.setIfInBounds_toArray, List.set_cons_zero, List.set_cons_succ])
                refine wpAnyH_take (i := 7) (oi := ({ dst := some 66, op := Op.move (Operand.tmp 65), type := 4, pos := "ref.go:91", after := #[{ on := 6, ground := Ground.data }], guard := none } : Oper)) (v := ?_) rfl (by kernel_rfl) (by kernel_rfl) (by kernel_rfl) (fun _ _ _ h => h) (Or.inl ⟨by rfl, ?_⟩) (by assumption) ?_
                rotate_left 1
                · intro w hSw; (try dsimp only at hSw); go_simp; try with_reducible rfl
                (try simp only [Act.put, List.setIfInBounds_toArray, List.set_cons_zero, List.set_cons_succ])
                refine wpAnyH_take (i := 8) (oi := ({ dst := some 67, op := Op.move (Operand.tmp 0), type := 22, pos := "ref.go:91", after := #[{ on := 7, ground := Ground.guard }], guard := some (7, true) } : Oper)) (v := ?_) rfl (by kernel_rfl) (by kernel_rfl) (by kernel_rfl) (fun _ _ _ h => h) (Or.inl ⟨by rfl, ?_⟩) (by assumption) ?_
                rotate_left 1
                · intro w hSw; (try dsimp only at hSw); go_simp; try with_reducible rfl
                (try simp only [Act.put, List.setIfInBounds_toArray, List.set_cons_zero, List.set_cons_succ])
                refine wpAnyH_take (i := 9) (oi := ({ dst := some 68, op := Op.move (Operand.tmp 6), type := 3, pos := "ref.go:91", after := #[{ on := 7, ground := Ground.guard }], guard := some (7, true) } : Oper)) (v := ?_) rfl (by kernel_rfl) (by kernel_rfl) (by kernel_rfl) (fun _ _ _ h => h) (Or.inl ⟨by rfl, ?_⟩) (by assumption) ?_
                rotate_left 1
                · intro w hSw; (try dsimp only at hSw); go_simp; try with_reducible rfl
                (try simp only [Act.put, List.setIfInBounds_toArray, List.set_cons_zero, List.set_cons_succ])
                refine wpAnyH_take (i := 10) (oi := ({ dst := some 69, op := Op.indexAddr 22 (Operand.tmp 67) (Operand.tmp 68), type := 0, pos := "ref.go:91", after := #[{ on := 8, ground := Ground.data }, { on := 9, ground := Ground.data }, { on := 7, ground := Ground.guard }], guard := some (7, true) } : Oper)) (v := ?_) rfl (by kernel_rfl) (by kernel_rfl) (by kernel_rfl) (fun _ _ _ h => h) (Or.inl ⟨by rfl, ?_⟩) (by assumption) ?_
                rotate_left 1
                · intro w hSw; (try dsimp only at hSw); go_simp; try with_reducible rfl
                (try simp only [Act.put, List.setIfInBounds_toArray, List.set_cons_zero, List.set_cons_succ])
                refine wpAnyH_take (i := 11) (oi := ({ dst := some 70, op := Op.fieldAddr 47 (Operand.tmp 69) 0, type := 0, pos := "ref.go:91", after := #[{ on := 10, ground := Ground.data }, { on := 7, ground := Ground.guard }], guard := some (7, true) } : Oper)) (v := ?_) rfl (by kernel_rfl) (by kernel_rfl) (by kernel_rfl) (fun _ _ _ h => h) (Or.inl ⟨by rfl, ?_⟩) (by assumption) ?_
                rotate_left 1
                · intro w hSw; (try dsimp only at hSw); go_simp; try with_reducible rfl
                (try simp only [Act.put, List.setIfInBounds_toArray, List.set_cons_zero, List.set_cons_succ])
                refine wpAnyH_take (i := 12) (oi := ({ dst := some 71, op := Op.load 4 (Operand.tmp 70), type := 4, pos := "ref.go:91", after := #[{ on := 11, ground := Ground.data }, { on := 7, ground := Ground.guard }], guard := some (7, true) } : Oper)) (v := ?_) rfl (by kernel_rfl) (by kernel_rfl) (by kernel_rfl) (fun _ _ _ h => h) (Or.inl ⟨by rfl, ?_⟩) (by assumption) ?_
                rotate_left 1
                · intro w hSw; (try dsimp only at hSw); go_simp; try with_reducible rfl
                (try simp only [Act.put, List.setIfInBounds_toArray, List.set_cons_zero, List.set_cons_succ])
                refine wpAnyH_take (i := 13) (oi := ({ dst := some 72, op := Op.move (Operand.tmp 71), type := 4, pos := "ref.go:91", after := #[{ on := 12, ground := Ground.data }, { on := 7, ground := Ground.chain }, { on := 7, ground := Ground.guard }], guard := some (7, true) } : Oper)) (v := ?_) rfl (by kernel_rfl) (by kernel_rfl) (by kernel_rfl) (fun _ _ _ h => h) (Or.inl ⟨by rfl, ?_⟩) (by assumption) ?_
                rotate_left 1
                · intro w hSw; (try dsimp only at hSw); go_simp; try with_reducible rfl
                (try simp only [Act.put, List.setIfInBounds_toArray, List.set_cons_zero, List.set_cons_succ])
                refine wpAnyH_take (i := 14) (oi := ({ dst := some 73, op := Op.move (Operand.tmp 0), type := 22, pos := "ref.go:91", after := #[{ on := 13, ground := Ground.guard }], guard := some (13, false) } : Oper)) (v := ?_) rfl (by kernel_rfl) (by kernel_rfl) (by kernel_rfl) (fun _ _ _ h => h) (Or.inl ⟨by rfl, ?_⟩) (by assumption) ?_
                rotate_left 1
                · intro w hSw; (try dsimp only at hSw); go_simp; try with_reducible rfl
                (try simp only [Act.put, List.setIfInBounds_toArray, List.set_cons_zero, List.set_cons_succ])
                refine wpAnyH_take (i := 15) (oi := ({ dst := some 74, op := Op.move (Operand.tmp 6), type := 3, pos := "ref.go:91", after := #[{ on := 13, ground := Ground.guard }], guard := some (13, false) } : Oper)) (v := ?_) rfl (by kernel_rfl) (by kernel_rfl) (by kernel_rfl) (fun _ _ _ h => h) (Or.inl ⟨by rfl, ?_⟩) (by assumption) ?_
                rotate_left 1
                · intro w hSw; (try dsimp only at hSw); go_simp; try with_reducible rfl
                (try simp only [Act.put, List.setIfInBounds_toArray, List.set_cons_zero, List.set_cons_succ])
                refine wpAnyH_take (i := 16) (oi := ({ dst := some 75, op := Op.indexAddr 22 (Operand.tmp 73) (Operand.tmp 74), type := 0, pos := "ref.go:91", after := #[{ on := 14, ground := Ground.data }, { on := 15, ground := Ground.data }, { on := 13, ground := Ground.guard }], guard := some (13, false) } : Oper)) (v := ?_) rfl (by kernel_rfl) (by kernel_rfl) (by kernel_rfl) (fun _ _ _ h => h) (Or.inl ⟨by rfl, ?_⟩) (by assumption) ?_
                rotate_left 1
                · intro w hSw; (try dsimp only at hSw); go_simp; try with_reducible rfl
                (try simp only [Act.put, List.setIfInBounds_toArray, List.set_cons_zero, List.set_cons_succ])
                refine wpAnyH_take (i := 17) (oi := ({ dst := some 76, op := Op.fieldAddr 47 (Operand.tmp 75) 2, type := 0, pos := "ref.go:91", after := #[{ on := 16, ground := Ground.data }, { on := 13, ground := Ground.guard }], guard := some (13, false) } : Oper)) (v := ?_) rfl (by kernel_rfl) (by kernel_rfl) (by kernel_rfl) (fun _ _ _ h => h) (Or.inl ⟨by rfl, ?_⟩) (by assumption) ?_
                rotate_left 1
                · intro w hSw; (try dsimp only at hSw); go_simp; try with_reducible rfl
                (try simp only [Act.put, List.setIfInBounds_toArray, List.set_cons_zero, List.set_cons_succ])
                refine wpAnyH_take (i := 18) (oi := ({ dst := some 77, op := Op.load 9 (Operand.tmp 76), type := 9, pos := "ref.go:91", after := #[{ on := 17, ground := Ground.data }, { on := 13, ground := Ground.guard }], guard := some (13, false) } : Oper)) (v := ?_) rfl (by kernel_rfl) (by kernel_rfl) (by kernel_rfl) (fun _ _ _ h => h) (Or.inl ⟨by rfl, ?_⟩) (by assumption) ?_
                rotate_left 1
                · intro w hSw; (try dsimp only at hSw); go_simp; try with_reducible rfl
                (try simp only [Act.put, List.setIfInBounds_toArray, List.set_cons_zero, List.set_cons_succ])
                refine wpAnyH_take (i := 19) (oi := ({ dst := some 78, op := Op.move (Operand.tmp 1), type := 23, pos := "ref.go:91", after := #[{ on := 13, ground := Ground.guard }], guard := some (13, false) } : Oper)) (v := ?_) rfl (by kernel_rfl) (by kernel_rfl) (by kernel_rfl) (fun _ _ _ h => h) (Or.inl ⟨by rfl, ?_⟩) (by assumption) ?_
                rotate_left 1
                · intro w hSw; (try dsimp only at hSw); go_simp; try with_reducible rfl
                (try simp only [Act.put, List.setIfInBounds_toArray, List.set_cons_zero, List.set_cons_succ])
                refine wpAnyH_take (i := 20) (oi := ({ dst := some 79, op := Op.move (Operand.tmp 8), type := 3, pos := "ref.go:91", after := #[{ on := 13, ground := Ground.guard }], guard := some (13, false) } : Oper)) (v := ?_) rfl (by kernel_rfl) (by kernel_rfl) (by kernel_rfl) (fun _ _ _ h => h) (Or.inl ⟨by rfl, ?_⟩) (by assumption) ?_
                rotate_left 1
                · intro w hSw; (try dsimp only at hSw); go_simp; try with_reducible rfl
                (try simp only [Act.put, List.setIfInBounds_toArray, List.set_cons_zero, List.set_cons_succ])
                refine wpAnyH_take (i := 21) (oi := ({ dst := some 80, op := Op.binOp BinOp.sub 3 (Operand.tmp 79) (Operand.const (Value.int IntKind.i64 1)) 3, type := 3, pos := "ref.go:91", after := #[{ on := 20, ground := Ground.data }, { on := 13, ground := Ground.guard }], guard := some (13, false) } : Oper)) (v := ?_) rfl (by kernel_rfl) (by kernel_rfl) (by kernel_rfl) (fun _ _ _ h => h) (Or.inl ⟨by rfl, ?_⟩) (by assumption) ?_
                rotate_left 1
                · intro w hSw; (try dsimp only at hSw); go_simp; try with_reducible rfl
                (try simp only [Act.put, List.setIfInBounds_toArray, List.set_cons_zero, List.set_cons_succ])
                refine wpAnyH_take (i := 22) (oi := ({ dst := some 81, op := Op.indexAddr 23 (Operand.tmp 78) (Operand.tmp 80), type := 0, pos := "ref.go:91", after := #[{ on := 19, ground := Ground.data }, { on := 21, ground := Ground.data }, { on := 13, ground := Ground.guard }], guard := some (13, false) } : Oper)) (v := ?_) rfl (by kernel_rfl) (by kernel_rfl) (by kernel_rfl) (fun _ _ _ h => h) (Or.inl ⟨by rfl, ?_⟩) (by assumption) ?_
                rotate_left 1
                · intro w hSw; (try dsimp only at hSw); go_simp; try with_reducible rfl
                (try simp only [Act.put, List.setIfInBounds_toArray, List.set_cons_zero, List.set_cons_succ])
                refine wpAnyH_take (i := 23) (oi := ({ dst := some 82, op := Op.load 9 (Operand.tmp 81), type := 9, pos := "ref.go:91", after := #[{ on := 22, ground := Ground.data }, { on := 13, ground := Ground.guard }], guard := some (13, false) } : Oper)) (v := ?_) rfl (by kernel_rfl) (by kernel_rfl) (by kernel_rfl) (fun _ _ _ h => h) (Or.inl ⟨by rfl, ?_⟩) (by assumption) ?_
                rotate_left 1
                · intro w hSw; (try dsimp only at hSw); go_simp; try with_reducible rfl
                (try simp only [Act.put, List.setIfInBounds_toArray, List.set_cons_zero, List.set_cons_succ])
                refine wpAnyH_take (i := 24) (oi := ({ dst := some 83, op := Op.binOp BinOp.eql 9 (Operand.tmp 77) (Operand.tmp 82) 9, type := 4, pos := "ref.go:91", after := #[{ on := 18, ground := Ground.data }, { on := 23, ground := Ground.data }, { on := 13, ground := Ground.guard }], guard := some (13, false) } : Oper)) (v := ?_) rfl (by kernel_rfl) (by kernel_rfl) (by kernel_rfl) (fun _ _ _ h => h) (Or.inl ⟨by rfl, ?_⟩) (by assumption) ?_
                rotate_left 1
                · intro w hSw; (try dsimp only at hSw); go_simp; try with_reducible rfl
                (try simp only [Act.put, List.setIfInBounds_toArray, List.set_cons_zero, List.set_cons_succ])
                refine wpAnyH_take (i := 25) (oi := ({ dst := some 84, op := Op.pick (Operand.tmp 72) (Operand.const (Value.bool true)) (Operand.tmp 83), type := 4, pos := "ref.go:91", after := #[{ on := 13, ground := Ground.data }, { on := 24, ground := Ground.data }, { on := 7, ground := Ground.guard }], guard := some (7, true) } : Oper)) (v := ?_) rfl (by kernel_rfl) (by kernel_rfl) (by kernel_rfl) (fun _ _ _ h => h) (Or.inl ⟨by rfl, ?_⟩) (by assumption) ?_
                rotate_left 1
                · intro w hSw; (try dsimp only at hSw); go_simp; try with_reducible rfl
                (try simp only [Act.put, List.setIfInBounds_toArray, List.set_cons_zero, List.set_cons_succ])
                refine wpAnyH_take (i := 26) (oi := ({ dst := some 85, op := Op.pick (Operand.tmp 66) (Operand.tmp 84) (Operand.const (Value.bool false)), type := 4, pos := "ref.go:91", after := #[{ on := 7, ground := Ground.data }, { on := 25, ground := Ground.data }], guard := none } : Oper)) (v := ?_) rfl (by kernel_rfl) (by kernel_rfl) (by kernel_rfl) (fun _ _ _ h => h) (Or.inl ⟨by rfl, ?_⟩) (by assumption) ?_
                rotate_left 1
                · intro w hSw; (try dsimp only at hSw); go_simp; try with_reducible rfl
                (try simp only [Act.put, List.setIfInBounds_toArray, List.set_cons_zero, List.set_cons_succ])
                refine wpAnyH_take (i := 27) (oi := ({ dst := some 86, op := Op.indexAddr 66 (Operand.tmp 59) (Operand.tmp 60), type := 0, pos := "ref.go:91", after := #[{ on := 0, ground := Ground.data }, { on := 1, ground := Ground.data }, { on := 0, ground := Ground.phase }, { on := 1, ground := Ground.phase }, { on := 2, ground := Ground.phase }, { on := 3, ground := Ground.phase }, { on := 4, ground := Ground.phase }, { on := 5, ground := Ground.phase }, { on := 6, ground := Ground.phase }, { on := 7, ground := Ground.phase }, { on := 8, ground := Ground.phase }, { on := 9, ground := Ground.phase }, { on := 10, ground := Ground.phase }, { on := 11, ground := Ground.phase }, { on := 12, ground := Ground.phase }, { on := 13, ground := Ground.phase }, { on := 14, ground := Ground.phase }, { on := 15, ground := Ground.phase }, { on := 16, ground := Ground.phase }, { on := 17, ground := Ground.phase }, { on := 18, ground := Ground.phase }, { on := 19, ground := Ground.phase }, { on := 20, ground := Ground.phase }, { on := 21, ground := Ground.phase }, { on := 22, ground := Ground.phase }, { on := 23, ground := Ground.phase }, { on := 24, ground := Ground.phase }, { on := 25, ground := Ground.phase }, { on := 26, ground := Ground.phase }], guard := none } : Oper)) (v := ?_) rfl (by kernel_rfl) (by kernel_rfl) (by kernel_rfl) (fun _ _ _ h => h) (Or.inl ⟨by rfl, ?_⟩) (by assumption) ?_
                rotate_left 1
                · intro w hSw; (try dsimp only at hSw); go_simp; try with_reducible rfl
                (try simp only [Act.put, List.setIfInBounds_toArray, List.set_cons_zero, List.set_cons_succ])
                --END
                refine wpAnyH_ready (rs := [28]) (by kernel_rfl) (by simp) ?_
                refine AllReadyH.cons (o := _) rfl (fun K hK => ?_) AllReadyH.nil
                go_simp
                refine hK.out _ _ ?_ (fun _ => ?_)
                · exact ⟨(World.cell?_setCell_other (w := wr) (h := hab) (v := .bool (x.nm.toList == p.toList))).trans cM, (World.cell?_setCell_other (w := wr) (h := hac0) (v := .bool (x.nm.toList == p.toList))).trans h03, (World.cell?_setCell_other (w := wr) (h := hac2) (v := .bool (x.nm.toList == p.toList))).trans h23, (World.cell?_setCell_other (w := wr) (h := hap) (v := .bool (x.nm.toList == p.toList))).trans hcp⟩
                clear hK K
                refine wpAnyH_done (by kernel_rfl) ?_ _
                have HE1 := Lib.hid (show (wr.setCell ⟨wo.heap.size, k' + 1, none⟩ (.bool (x.nm.toList == p.toList))).drew.ownsRow w.heap.size 4 1 (.slice (some ⟨wo.heap.size, 0, none⟩) (m + 1) (m + 1)) (m + 1) (boolCellsQ (upB m fj (k' + 1 + 1))) by have h := HS1.out; rw [hvv.out] at h; exact h)
                have HE2 := Lib.hid (show (wr.setCell ⟨wo.heap.size, k' + 1, none⟩ (.bool (x.nm.toList == p.toList))).drew.ownsRow w.heap.size 4 1 (.slice (some ⟨T, 0, none⟩) (m + 1) (m + 1)) (m + 1) (boolCellsQ (upB m fi (m + 1))) by have h := HST1.out; rw [hvv.out] at h; exact h)
                have HE3 := Lib.hid (show Below w.heap.size w (wr.setCell ⟨wo.heap.size, k' + 1, none⟩ (.bool (x.nm.toList == p.toList))).drew by have h := HSB.out; rw [hvv.out] at h; exact h.drew)
                generalize (wr.setCell ⟨wo.heap.size, k' + 1, none⟩ (.bool (x.nm.toList == p.toList))).drew = X at *
                go_wp2
                go_roundw
                case rel => exact ⟨k' + 1 + 1, by omega, by go_num, HE1, HE2, HE3⟩
                case measure => simp [intOf] <;> omega
        · obtain rfl : k = m + 1 := by omega
          go_wp2
          go_roundw
          case rel => exact ⟨i + 1, wo.heap.size, by omega, rfl, by go_num, by rw [HFJ.out]; exact HN.out, HB⟩
          case measure => simp [intOf]; omega
    · obtain rfl : i = n := by omega
      have cT := own_upB HT.out (j := m) (by omega) (Nat.le_refl _)
      rw [← HM.out] at cT
      have e0 : (0 : Int) ≤ (m : Int) := by omega
      have e1 : (m : Int) < (m : Int) + 1 := by omega
      go_wp2
      go_ret
      exact ⟨rfl, HB.out⟩
set_option maxRecDepth 100000 in
set_option maxHeartbeats 1000000 in
theorem rqmatch_any (A : Option Addr) (n cp : Nat) (l : List StN) (A' : Option Addr) (m cp' : Nat) (path : List ByteArray) (w : World) (hn : n ≤ 9223372036854775807) (hm : m ≤ 1099511627776) (hs : StsAt w A n l) (hp : TsAt w A' m path) :
    Calls Tryd.prog 11 #[.slice A n cp, .slice A' m cp'] w (BelB (matchN l path) w) := by
  by_cases h : n ≤ 64
  · exact rmatch_in A n cp l A' m cp' path w h hm hs hp
  · have hf : matchN l path = false := by unfold matchN; rw [hs.1, decide_eq_false h, Bool.false_and]
    rw [hf]
    have t0 : (64 : Int) < (n : Int) := by omega
    clear hf hs hp h
    go_enter Tryd.func11, Tryd.ntmps11
    go_wp2
    go_ret
    exact ⟨rfl, Below.refl _ _⟩
end Go.Proofs.YtlifdmehejehjaaDoor
