/- Merged texts: QValPlain, QVals, QTexts. -/
import Derived.Test.YtlifdmehejehjaaDoorQFind
import Derived.Test.YtlifdmehejehjaaDoorDiffRFind
import Derived.Test.YtlifdmehejehjaaDoorDiffText
/- What a list of places tells: the values of an attribute, the texts of the elements. Plain lists; no program in sight. -/
namespace Go.Proofs.YtlifdmehejehjaaDoor
open Go.Proofs.YtlifdmehejehjaaDoor.QPlain
def isAttr (sp lo : ByteArray) (x : At) : Bool := decide (x.sp = sp ∧ x.lo = lo)
def valsE (sp lo : ByteArray) (e : Ev) (j : Nat) : List ByteArray := ((e.ats.take j).filter (isAttr sp lo)).map (·.va)
theorem valsE_yes {sp lo : ByteArray} {e : Ev} {j : Nat} {x : At} (hx : e.ats[j]? = some x) (h : isAttr sp lo x = true) : valsE sp lo e (j + 1) = valsE sp lo e j ++ [x.va] := by
  unfold valsE; rw [List.take_add_one, hx, List.filter_append, List.map_append]; simp [h]
theorem valsE_no {sp lo : ByteArray} {e : Ev} {j : Nat} {x : At} (hx : e.ats[j]? = some x) (h : isAttr sp lo x = false) : valsE sp lo e (j + 1) = valsE sp lo e j := by
  unfold valsE; rw [List.take_add_one, hx, List.filter_append, List.map_append]; simp [h]
theorem valsE_len (sp lo : ByteArray) (e : Ev) (j : Nat) : (valsE sp lo e j).length ≤ j := by
  unfold valsE
  rw [List.length_map]
  have h1 := List.length_filter_le (isAttr sp lo) (e.ats.take j)
  rw [List.length_take] at h1
  omega
def valsK (l : List Ev) (sp lo : ByteArray) (xs : List Int) (k : Nat) : List ByteArray := (xs.take k).flatMap fun x => match l[x.toNat]? with | some e => valsE sp lo e e.ats.length | none => []
theorem valsK_succ {l : List Ev} {sp lo : ByteArray} {xs : List Int} {k i : Nat} {e : Ev} (hx : xs[k]? = some (i : Int)) (he : l[i]? = some e) : valsK l sp lo xs (k + 1) = valsK l sp lo xs k ++ valsE sp lo e e.ats.length := by
  unfold valsK; rw [List.take_add_one, hx, List.flatMap_append]; simp [he]
theorem valsK_len {l : List Ev} {sp lo : ByteArray} {xs : List Int} {B : Nat} (hb : ∀ e ∈ l, e.ats.length ≤ B) (k : Nat) : (valsK l sp lo xs k).length ≤ k * B := by
  induction k with
  | zero => simp [valsK]
  | succ k ih =>
    have h : (valsK l sp lo xs (k + 1)).length ≤ (valsK l sp lo xs k).length + B := by
      unfold valsK
      rw [List.take_add_one, List.flatMap_append, List.length_append]
      refine Nat.add_le_add_left ?_ _
      cases hx : xs[k]? with
      | none => simp
      | some x =>
        simp only [Option.toList_some, List.flatMap_cons, List.flatMap_nil, List.append_nil]
        split
        · rename_i e he
          exact Nat.le_trans (valsE_len _ _ _ _) (hb e (List.mem_of_getElem? he))
        · simp
    rw [Nat.add_mul]; omega
theorem qfindK_at {l : List Ev} {st : List StN} {n i : Nat} {x : Int} (h : (qfindK l st n)[i]? = some x) : ∃ k : Nat, x = (k : Int) ∧ k < n := by
  have h2 := List.mem_of_getElem? h
  unfold qfindK at h2
  rw [List.mem_map] at h2
  obtain ⟨k, hk, rfl⟩ := h2
  rw [List.mem_filter, List.mem_range] at hk
  exact ⟨k, rfl, hk.1⟩
theorem evSum_ats {l : List Ev} {e : Ev} (h : e ∈ l) : e.n ≤ evSum l := by
  obtain ⟨k, hk, rfl⟩ := List.getElem_of_mem h
  have := evSum_mem (List.getElem?_eq_getElem hk)
  unfold Ev.all at this
  omega
/-- The end of an element, or the end of all. -/
def endT (l : List Ev) (i : Nat) : Nat := if (spanR l i).2 = 0 then (spanR l i).1.toNat else l.length - 1
def textT (l : List Ev) (i : Nat) : ByteArray := textK ((l.drop i).take (endT l i + 1 - i)) (endT l i + 1 - i)
theorem spanF_lt {l : List Ev} {j : Nat} (h : spanF l = some j) : j < l.length := by
  unfold spanF at h
  have := List.mem_of_find?_eq_some h
  exact List.mem_range.1 this
theorem span_shape (l : List Ev) (i : Nat) (hi : i < l.length) : (∃ to : Nat, spanR l i = ((to : Int), 0) ∧ i ≤ to ∧ to < l.length ∧ endT l i = to) ∨ (spanR l i = (0, 4) ∧ endT l i = l.length - 1) := by
  unfold endT spanR
  rw [List.getElem?_eq_getElem hi]
  dsimp only
  split
  · cases hs : spanF (l.drop i) with
    | none => exact .inr ⟨rfl, rfl⟩
    | some j =>
      have := spanF_lt hs
      rw [List.length_drop] at this
      exact .inl ⟨i + j, rfl, by omega, by omega, by show (if (0 : Int) = 0 then (((i + j : Nat) : Int)).toNat else _) = i + j; rw [if_pos rfl, Int.toNat_natCast]⟩
  · exact .inr ⟨rfl, rfl⟩
def textsT (l : List Ev) (xs : List Int) (k : Nat) : List ByteArray := (xs.take k).map fun x => textT l x.toNat
theorem textsT_succ {l : List Ev} {xs : List Int} {k i : Nat} (hx : xs[k]? = some (i : Int)) : textsT l xs (k + 1) = textsT l xs k ++ [textT l i] := by
  unfold textsT; rw [List.take_add_one, hx, List.map_append]; simp
theorem textsT_len (l : List Ev) (xs : List Int) (k : Nat) : (textsT l xs k).length ≤ k := by
  unfold textsT; rw [List.length_map, List.length_take]; omega
theorem evSum_drop (l : List Ev) (i : Nat) : evSum (l.drop i) ≤ evSum l := by
  have h : evSum l = evSum (l.take i) + evSum (l.drop i) := by
    unfold evSum
    rw [← List.sum_append, ← List.map_append, List.take_append_drop]
  omega
end Go.Proofs.YtlifdmehejehjaaDoor
/- The contracts of query.Values and of the reference's Values: the values of an attribute. Conditions: at most 2^20 events; together at most 2^20. -/
namespace Go.Proofs.YtlifdmehejehjaaDoor
open Go.RowKit Go.Proofs.YtlifdmehejehjaaDoor.QPlain
set_option linter.unusedVariables false
set_option linter.unusedSimpArgs false
def TellVs (xs : List ByteArray) (w : World) (e : Ending) (w' : World) : Prop := ∃ A c, e = .returned (.slice A xs.length c) ∧ xs.length ≤ c ∧ c ≤ 9223372036854775807 ∧ StrsAt w' A xs.length xs ∧ Below w.heap.size w w'
theorem strCells_snoc (l : List ByteArray) (x : ByteArray) : strCells (l ++ [x]) = strCells l ++ [.string x] := by simp [strCells]
theorem atBox (w : World) (x : At) (t : TypeId) : ∃ W, w.alloc (.cells #[.string x.sp, .string x.lo, .string x.va] t) = W ∧ Below w.heap.size w W ∧ w.heap.size < W.heap.size ∧
    W.cell? ⟨w.heap.size, 0, none⟩ = some (.string x.sp) ∧ W.cell? ⟨w.heap.size, 1, none⟩ = some (.string x.lo) ∧ W.cell? ⟨w.heap.size, 2, none⟩ = some (.string x.va) :=
  ⟨_, rfl, (Below.refl _ w).alloc (Nat.le_refl _) _, by simp, by simp, by simp, by simp⟩
theorem isAttr_yes {sp lo : ByteArray} {x : At} (h1 : x.sp = sp) (h2 : x.lo = lo) : isAttr sp lo x = true := by unfold isAttr; simp [h1, h2]
set_option maxRecDepth 100000 in
set_option maxHeartbeats 4000000 in
theorem qvalues_any (A : Option Addr) (n c : Nat) (l : List Ev) (A' : Option Addr) (m cp' : Nat) (st : List StN) (sp lo : ByteArray) (w : World) (hl : EvsAt w A n l) (hs : StsAt w A' m st) (hn : n ≤ 1048576) (hc : n ≤ c) (hc2 : c ≤ 9223372036854775807) (hm : m ≤ 9223372036854775807) (he : evSum l ≤ 1048576) :
    Calls Tryd.prog 21 #[.slice A n c, .slice A' m cp', .agg #[.string sp, .string lo]] w (TellVs (valsK l sp lo (qfindK l st n) (qfindK l st n).length) w) := by
  obtain ⟨j0, hj0, hy0, hy1, hy2⟩ := info_parts Tryd.infoStr
  obtain ⟨W0, hW0⟩ : ∃ W0, W0 = w.alloc (.cells #[.string sp, .string lo] 37) := ⟨_, rfl⟩
  have hb0 : Below w.heap.size w W0 := by rw [hW0]; exact (Below.refl _ _).alloc (Nat.le_refl _) _
  have e0 : W0.cell? ⟨w.heap.size, 0, none⟩ = some (.string sp) := by rw [hW0]; simp
  have e1 : W0.cell? ⟨w.heap.size, 1, none⟩ = some (.string lo) := by rw [hW0]; simp
  have hsz : w.heap.size < W0.heap.size := by rw [hW0]; simp
  have F := qfind_any A n c l A' m cp' st W0 (hl.below hb0) (hs.below hb0) hn hc hc2 hm
  have hxl := qfindK_len l st n
  have hxat := fun (i : Nat) (x : Int) (h : (qfindK l st n)[i]? = some x) => qfindK_at h
  have hvl := fun k => valsK_len (l := l) (sp := sp) (lo := lo) (xs := qfindK l st n) (B := 1048576) (fun e h => by
    have h1 := evSum_ats h
    obtain ⟨i, hi, rfl⟩ := List.getElem_of_mem h
    obtain ⟨a, e', _, hx, _, hok⟩ := hl.2 i (by rw [← hl.1]; exact hi)
    rw [List.getElem?_eq_getElem hi] at hx; cases hx
    rw [hok.1.1]; omega) k
  generalize qfindK l st n = xs at *
  have HW0 := Lib.hid hW0
  have F := Lib.hid F
  have L := Lib.hid hl
  have HB0 := Lib.hid hb0
  have E0 := Lib.hid e0
  have E1 := Lib.hid e1
  have SZ := Lib.hid hsz
  have XA := Lib.hid hxat
  have VL := Lib.hid hvl
  have HES := Lib.hid he
  clear hW0 hl hs hb0 e0 e1 hsz hxat hvl
  go_enter Tryd.func21, Tryd.ntmps21
  go_wp2_with fail
  rw [← HW0.out]
  refine F.out.mono ?_
  rintro e w1 ⟨A1, c1, rfl, -, -, hown, hB1⟩
  have HI := Lib.hid (IntsAt.of_own hown)
  have HB1 := Lib.hid (HB0.out.trans (hB1.mono HB0.out.size))
  have E0 := Lib.hid ((hB1.cell (p := ⟨w.heap.size, 0, none⟩) SZ.out).trans E0.out)
  have E1 := Lib.hid ((hB1.cell (p := ⟨w.heap.size, 1, none⟩) SZ.out).trans E1.out)
  have SZ1 := Lib.hid (Nat.lt_of_lt_of_le SZ.out hB1.size)
  clear hown hB1 F HW0
  go_wp2
  go_loopw [7, 16] (fun o i wr => ∃ (k : Nat) (v : Value), v = o ∧ k ≤ xs.length ∧ i = .int .i64 k ∧ Hid (wr.ownsRow w1.heap.size 9 1 v (valsK l sp lo xs k).length (strCells (valsK l sp lo xs k))) ∧ Hid (Below w1.heap.size w1 wr)) (fun _ i _ => xs.length - (intOf i).toNat)
  case atStart => exact ⟨0, _, rfl, by omega, rfl, World.ownsRow_nil _ _ _ _, Below.refl _ _⟩
  case round =>
    obtain ⟨k, v, rfl, hk', rfl, HO, HB⟩ := hrel
    obtain ⟨wo, hwo⟩ : ∃ wo, wo = wr := ⟨_, rfl⟩
    subst hwo
    by_cases hlt : k < xs.length
    · obtain ⟨ax, x, rfl, hx, -, hcx⟩ := (HI.out.below HB.out).2 k hlt
      obtain ⟨i, rfl, hin⟩ := XA.out k x hx
      obtain ⟨a, e, rfl, hxe, he, hok⟩ := L.out.2 i hin
      have b0 : (0 : Int) ≤ (k : Int) := by omega
      have b1 : (k : Int) < (xs.length : Int) := by omega
      have d0 : (0 : Int) ≤ (i : Int) := by omega
      have d1 : (i : Int) < (n : Int) := by omega
      obtain ⟨_, g0, g1, g2, g3, g4⟩ := he.below (HB1.out.trans (HB.out.mono HB1.out.size)) he.1
      have HVS := Lib.hid (valsK_succ (sp := sp) (lo := lo) hx hxe)
      have HVL := Lib.hid (VL.out k)
      have hen := evSum_ats (List.mem_of_getElem? hxe)
      have HEN : Hid (e.n ≤ 1048576) := Nat.le_trans hen HES.out
      have AT := Lib.hid hok.1
      have HK : Hid (k ≤ 1048576) := Nat.le_trans hk' (Nat.le_trans hxl hn)
      obtain ⟨EA, hEA⟩ : ∃ EA, EA = e.A := ⟨_, rfl⟩
      rw [← hEA] at g3 AT
      have hals := hok.1.1
      have HAL := Lib.hid hals
      clear he hok hx hxe hen hEA hals
      generalize valsK l sp lo xs k = ys at *
      go_wp2
      go_loopw [7, 26] (fun o j wr2 => ∃ (q : Nat) (v : Value), v = o ∧ q ≤ e.n ∧ j = .int .i64 q ∧ Hid (wr2.ownsRow w1.heap.size 9 1 v (ys ++ valsE sp lo e q).length (strCells (ys ++ valsE sp lo e q))) ∧ Hid (Below w1.heap.size w1 wr2)) (fun _ j _ => e.n - (intOf j).toNat)
      case atStart => exact ⟨0, _, rfl, by omega, rfl, by show Hid _; rw [show valsE sp lo e 0 = [] from rfl, List.append_nil]; exact HO, HB⟩
      case round =>
        obtain ⟨q, v, rfl, hq, rfl, HO2, HB2⟩ := hrel
        by_cases hlq : q < e.n
        · obtain ⟨a2, x, rfl, hx, hat⟩ := (AT.out.below (HB1.out.trans (HB2.out.mono HB1.out.size))).2 q hlq
          obtain ⟨-, q0, q1, q2⟩ := hat
          have b2 : (0 : Int) ≤ (q : Int) := by omega
          have b4 := HEN.out
          have b3 : (q : Int) < (e.n : Int) := by omega
          obtain ⟨W, hW, hbW, hszW, w0, w1c, w2c⟩ := atBox wr x 80
          have HOW := Lib.hid (ownRow_below HO2.out hbW)
          have HBW := Lib.hid (HB2.out.trans (hbW.mono HB2.out.size))
          have k0 := (HBW.out.cell (p := ⟨w.heap.size, 0, none⟩) SZ1.out).trans E0.out
          have k1 := (HBW.out.cell (p := ⟨w.heap.size, 1, none⟩) SZ1.out).trans E1.out
          have NE := nameEql x.sp x.lo sp lo
          clear hbW hszW
          by_cases hna : x.sp = sp ∧ x.lo = lo
          · rw [decide_eq_true hna] at NE
            have hvy : ys ++ valsE sp lo e (q + 1) = (ys ++ valsE sp lo e q) ++ [x.va] := by rw [valsE_yes hx (decide_eq_true hna), List.append_assoc]
            clear hx hna
            have hvl := HVL.out
            have hvq := valsE_len sp lo e q
            have hk9 := HK.out
            have hll : (ys ++ valsE sp lo e q).length ≤ 1099512676352 := by rw [List.length_append]; have := Nat.mul_le_mul_right 1048576 hk9; omega
            generalize ys ++ valsE sp lo e q = zs at *
            have HVY := Lib.hid hvy
            clear hvy
            have LL := Lib.hid hll
            have hzW := HBW.out.size
            clear hvl hvq hk9 hll
            go_wp2_with (at_builtin; refine wpList_append_own_at _ rfl (.tmp 34) (.tmp 37) 23 rfl w1.heap.size 9 j0 (.string ⟨#[]⟩) 1 16 Tryd.underlying23 hj0 hy0 hy1 hy2 rfl (by decide) _ _ _ rfl (HOW.out.alloc _) ⟨W.heap.size, 0, none⟩ 1 1 [.string x.va] rfl rfl (strCell_new _ _ _) ?k2 ?k3 ?k4 ?k5 ?_)
            case k2 => exact str_news _ rfl
            case k3 => have := LL.out; unfold maxLen; omega
            case k4 => have := LL.out; omega
            case k5 => simp; omega
            intro o' w5 hown' hgrow _ hblk
            have HB5 := Lib.hid ((HBW.out.alloc hzW _).grown hgrow (by simp; omega) (fun g hg => (HOW.out.lt g hg).1))
            have r1 : strCells zs ++ [.string x.va] = strCells (ys ++ valsE sp lo e (q + 1)) := by rw [HVY.out, strCells_snoc]
            have r2 : zs.length + 1 = (ys ++ valsE sp lo e (q + 1)).length := by rw [HVY.out, List.length_append]; rfl
            rw [r1, r2] at hown'
            clear r1 r2
            have HO5 := Lib.hid hown'
            clear hown' hgrow hblk
            go_wp2
            go_roundw
            case rel => exact ⟨q + 1, _, rfl, by omega, by go_num, HO5, HB5⟩
            case measure => simp [intOf]; omega
          · rw [decide_eq_false hna] at NE
            have HVN := Lib.hid (valsE_no hx (decide_eq_false hna))
            clear hx hna
            go_wp2
            go_roundw
            case rel => exact ⟨q + 1, _, rfl, by omega, by go_num, by rw [HVN.out]; exact HOW, HBW⟩
            case measure => simp [intOf]; omega
        · obtain rfl : q = e.n := by omega
          have ho := HO2.out
          rw [show e.n = e.ats.length from HAL.out.symm, ← HVS.out] at ho
          have HO6 := Lib.hid ho
          clear ho
          go_wp2
          go_roundw
          case rel => exact ⟨k + 1, _, rfl, by omega, by go_num, HO6, HB2⟩
          case measure => simp [intOf]; omega
    · obtain rfl : k = xs.length := by omega
      obtain ⟨A2, c2, rfl⟩ := ownRow_shape HO.out
      obtain ⟨h1, h2, _⟩ := ownRow_cap HO.out
      have hS := StrsAt.of_own HO.out
      have HS := Lib.hid hS
      clear hS
      go_wp2
      go_ret
      exact ⟨A2, c2, rfl, h1, h2, HS.out, HB1.out.trans (HB.out.mono HB1.out.size)⟩
set_option maxRecDepth 100000 in
set_option maxHeartbeats 4000000 in
theorem rqvalues_any (A : Option Addr) (n c : Nat) (l : List Ev) (A' : Option Addr) (m cp' : Nat) (st : List StN) (sp lo : ByteArray) (w : World) (hl : EvsAt w A n l) (hs : StsAt w A' m st) (hn : n ≤ 1048576) (hm : m ≤ 9223372036854775807) (he : evSum l ≤ 1048576) :
    Calls Tryd.prog 22 #[.slice A n c, .slice A' m cp', .agg #[.string sp, .string lo]] w (TellVs (valsK l sp lo (qfindK l st n) (qfindK l st n).length) w) := by
  obtain ⟨j0, hj0, hy0, hy1, hy2⟩ := info_parts Tryd.infoStr
  obtain ⟨W0, hW0⟩ : ∃ W0, W0 = w.alloc (.cells #[.string sp, .string lo] 37) := ⟨_, rfl⟩
  have hb0 : Below w.heap.size w W0 := by rw [hW0]; exact (Below.refl _ _).alloc (Nat.le_refl _) _
  have e0 : W0.cell? ⟨w.heap.size, 0, none⟩ = some (.string sp) := by rw [hW0]; simp
  have e1 : W0.cell? ⟨w.heap.size, 1, none⟩ = some (.string lo) := by rw [hW0]; simp
  have hsz : w.heap.size < W0.heap.size := by rw [hW0]; simp
  have F := rqfind_any A n c l A' m cp' st W0 (hl.below hb0) (hs.below hb0) hn hm
  have hxl := qfindK_len l st n
  have hxat := fun (i : Nat) (x : Int) (h : (qfindK l st n)[i]? = some x) => qfindK_at h
  have hvl := fun k => valsK_len (l := l) (sp := sp) (lo := lo) (xs := qfindK l st n) (B := 1048576) (fun e h => by
    have h1 := evSum_ats h
    obtain ⟨i, hi, rfl⟩ := List.getElem_of_mem h
    obtain ⟨a, e', _, hx, _, hok⟩ := hl.2 i (by rw [← hl.1]; exact hi)
    rw [List.getElem?_eq_getElem hi] at hx; cases hx
    rw [hok.1.1]; omega) k
  generalize qfindK l st n = xs at *
  have HW0 := Lib.hid hW0
  have F := Lib.hid F
  have L := Lib.hid hl
  have HB0 := Lib.hid hb0
  have E0 := Lib.hid e0
  have E1 := Lib.hid e1
  have SZ := Lib.hid hsz
  have XA := Lib.hid hxat
  have VL := Lib.hid hvl
  have HES := Lib.hid he
  clear hW0 hl hs hb0 e0 e1 hsz hxat hvl
  go_enter Tryd.func22, Tryd.ntmps22
  go_wp2_with fail
  rw [← HW0.out]
  refine F.out.mono ?_
  rintro e w1 ⟨A1, c1, rfl, -, -, hown, hB1⟩
  have HI := Lib.hid (IntsAt.of_own hown)
  have HB1 := Lib.hid (HB0.out.trans (hB1.mono HB0.out.size))
  have E0 := Lib.hid ((hB1.cell (p := ⟨w.heap.size, 0, none⟩) SZ.out).trans E0.out)
  have E1 := Lib.hid ((hB1.cell (p := ⟨w.heap.size, 1, none⟩) SZ.out).trans E1.out)
  have SZ1 := Lib.hid (Nat.lt_of_lt_of_le SZ.out hB1.size)
  clear hown hB1 F HW0
  go_wp2
  go_loopw [8, 9] (fun o i wr => ∃ (k : Nat) (v : Value), v = o ∧ k ≤ xs.length ∧ i = .int .i64 k ∧ Hid (wr.ownsRow w1.heap.size 9 1 v (valsK l sp lo xs k).length (strCells (valsK l sp lo xs k))) ∧ Hid (Below w1.heap.size w1 wr)) (fun _ i _ => xs.length - (intOf i).toNat)
  case atStart => exact ⟨0, _, rfl, by omega, rfl, World.ownsRow_nil _ _ _ _, Below.refl _ _⟩
  case round =>
    obtain ⟨k, v, rfl, hk', rfl, HO, HB⟩ := hrel
    obtain ⟨wo, hwo⟩ : ∃ wo, wo = wr := ⟨_, rfl⟩
    subst hwo
    by_cases hlt : k < xs.length
    · obtain ⟨ax, x, rfl, hx, -, hcx⟩ := (HI.out.below HB.out).2 k hlt
      obtain ⟨i, rfl, hin⟩ := XA.out k x hx
      obtain ⟨a, e, rfl, hxe, he, hok⟩ := L.out.2 i hin
      have b0 : (0 : Int) ≤ (k : Int) := by omega
      have b1 : (k : Int) < (xs.length : Int) := by omega
      have d0 : (0 : Int) ≤ (i : Int) := by omega
      have d1 : (i : Int) < (n : Int) := by omega
      obtain ⟨_, g0, g1, g2, g3, g4⟩ := he.below (HB1.out.trans (HB.out.mono HB1.out.size)) he.1
      have HVS := Lib.hid (valsK_succ (sp := sp) (lo := lo) hx hxe)
      have HVL := Lib.hid (VL.out k)
      have hen := evSum_ats (List.mem_of_getElem? hxe)
      have HEN : Hid (e.n ≤ 1048576) := Nat.le_trans hen HES.out
      have AT := Lib.hid hok.1
      have HK : Hid (k ≤ 1048576) := Nat.le_trans hk' (Nat.le_trans hxl hn)
      obtain ⟨EA, hEA⟩ : ∃ EA, EA = e.A := ⟨_, rfl⟩
      rw [← hEA] at g3 AT
      have hals := hok.1.1
      have HAL := Lib.hid hals
      clear he hok hx hxe hen hEA hals
      generalize valsK l sp lo xs k = ys at *
      go_wp2
      go_loopw [8, 11] (fun o j wr2 => ∃ (q : Nat) (v : Value), v = o ∧ q ≤ e.n ∧ j = .int .i64 q ∧ Hid (wr2.ownsRow w1.heap.size 9 1 v (ys ++ valsE sp lo e q).length (strCells (ys ++ valsE sp lo e q))) ∧ Hid (Below w1.heap.size w1 wr2)) (fun _ j _ => e.n - (intOf j).toNat)
      case atStart => exact ⟨0, _, rfl, by omega, rfl, by show Hid _; rw [show valsE sp lo e 0 = [] from rfl, List.append_nil]; exact HO, HB⟩
      case round =>
        obtain ⟨q, v, rfl, hq, rfl, HO2, HB2⟩ := hrel
        by_cases hlq : q < e.n
        · obtain ⟨a2, x, rfl, hx, hat⟩ := (AT.out.below (HB1.out.trans (HB2.out.mono HB1.out.size))).2 q hlq
          obtain ⟨hatl, q0, q1, q2⟩ := hat
          have b2 : (0 : Int) ≤ (q : Int) := by omega
          have b4 := HEN.out
          have b3 : (q : Int) < (e.n : Int) := by omega
          have HOW := HO2
          have HBW := HB2
          have k0 := (HBW.out.cell (p := ⟨w.heap.size, 0, none⟩) SZ1.out).trans E0.out
          have k1 := (HBW.out.cell (p := ⟨w.heap.size, 1, none⟩) SZ1.out).trans E1.out
          have NE := nameEql x.sp x.lo sp lo
          by_cases hna : x.sp = sp ∧ x.lo = lo
          · rw [decide_eq_true hna] at NE
            have hvy : ys ++ valsE sp lo e (q + 1) = (ys ++ valsE sp lo e q) ++ [x.va] := by rw [valsE_yes hx (decide_eq_true hna), List.append_assoc]
            clear hx hna
            have hvl := HVL.out
            have hvq := valsE_len sp lo e q
            have hk9 := HK.out
            have hll : (ys ++ valsE sp lo e q).length ≤ 1099512676352 := by rw [List.length_append]; have := Nat.mul_le_mul_right 1048576 hk9; omega
            generalize ys ++ valsE sp lo e q = zs at *
            have HVY := Lib.hid hvy
            clear hvy
            have LL := Lib.hid hll
            clear hvl hvq hk9 hll
            go_wp2_with fail
            go_quiet (fail)
            have HOW := Lib.hid (ownRow_below HOW.out (below_drewN _ wr nq))
            have HBW := Lib.hid (HBW.out.trans (below_drewN _ wr nq))
            have hzW := HBW.out.size
            have q2 := ((below_drewN wr.heap.size wr nq).cell (p := ⟨(a2.add (q * 3)).block, (a2.add (q * 3)).off + 2, none⟩) hatl).trans q2
            generalize wr.drewN nq = W at *
            go_wp2_with (at_builtin; refine wpList_append_own_at _ rfl (.tmp 42) (.tmp 48) 23 rfl w1.heap.size 9 j0 (.string ⟨#[]⟩) 1 16 Tryd.underlying23 hj0 hy0 hy1 hy2 rfl (by decide) _ _ _ rfl (HOW.out.alloc _) ⟨W.heap.size, 0, none⟩ 1 1 [.string x.va] rfl rfl (strCell_new _ _ _) ?k2 ?k3 ?k4 ?k5 ?_)
            case k2 => exact str_news _ rfl
            case k3 => have := LL.out; unfold maxLen; omega
            case k4 => have := LL.out; omega
            case k5 => simp; omega
            intro o' w5 hown' hgrow _ hblk
            have HB5 := Lib.hid ((HBW.out.alloc hzW _).grown hgrow (by simp; omega) (fun g hg => (HOW.out.lt g hg).1))
            have r1 : strCells zs ++ [.string x.va] = strCells (ys ++ valsE sp lo e (q + 1)) := by rw [HVY.out, strCells_snoc]
            have r2 : zs.length + 1 = (ys ++ valsE sp lo e (q + 1)).length := by rw [HVY.out, List.length_append]; rfl
            rw [r1, r2] at hown'
            clear r1 r2
            have HO5 := Lib.hid hown'
            clear hown' hgrow hblk
            go_wp2
            go_roundw
            case rel => exact ⟨q + 1, _, rfl, by omega, by go_num, HO5, HB5⟩
            case measure => simp [intOf]; omega
          · rw [decide_eq_false hna] at NE
            have HVN := Lib.hid (valsE_no hx (decide_eq_false hna))
            clear hx hna
            go_wp2
            go_quiet (fail)
            go_wp2
            go_roundw
            case rel => exact ⟨q + 1, _, rfl, by omega, by go_num, by rw [HVN.out]; exact ownRow_below HOW.out (below_drewN _ _ _), HBW.out.trans (below_drewN _ _ _)⟩
            case measure => simp [intOf]; omega
        · obtain rfl : q = e.n := by omega
          have ho := HO2.out
          rw [show e.n = e.ats.length from HAL.out.symm, ← HVS.out] at ho
          have HO6 := Lib.hid ho
          clear ho
          go_wp2
          go_roundw
          case rel => exact ⟨k + 1, _, rfl, by omega, by go_num, HO6, HB2⟩
          case measure => simp [intOf]; omega
    · obtain rfl : k = xs.length := by omega
      obtain ⟨A2, c2, rfl⟩ := ownRow_shape HO.out
      obtain ⟨h1, h2, _⟩ := ownRow_cap HO.out
      have hS := StrsAt.of_own HO.out
      have HS := Lib.hid hS
      clear hS
      go_wp2
      go_ret
      exact ⟨A2, c2, rfl, h1, h2, HS.out, HB1.out.trans (HB.out.mono HB1.out.size)⟩
end Go.Proofs.YtlifdmehejehjaaDoor
/- The contracts of query.Texts and of the reference's Texts: the texts of the elements that are found. Conditions: at most 2^20 events; together at most 2^20. -/
namespace Go.Proofs.YtlifdmehejehjaaDoor
open Go.RowKit Go.Proofs.YtlifdmehejehjaaDoor.QPlain
set_option linter.unusedVariables false
set_option linter.unusedSimpArgs false
theorem EvsAt.takeQ {w : World} {A : Option Addr} {n q : Nat} {l : List Ev} (h : EvsAt w A n l) (hq : q ≤ n) : EvsAt w A q (l.take q) := by
  refine ⟨by rw [List.length_take, h.1]; omega, fun i hi => ?_⟩
  obtain ⟨a, e, h1, h2, h3⟩ := h.2 i (by omega)
  exact ⟨a, e, h1, by rw [List.getElem?_take_of_lt hi]; exact h2, h3⟩
theorem sub_sum (l : List Ev) (i q : Nat) : evSum ((l.drop i).take q) ≤ evSum l := Nat.le_trans (evSum_le _ _) (evSum_drop _ _)
set_option maxRecDepth 100000 in
set_option maxHeartbeats 4000000 in
theorem qtexts_any (A : Option Addr) (n c : Nat) (l : List Ev) (A' : Option Addr) (m cp' : Nat) (st : List StN) (w : World) (hl : EvsAt w A n l) (hs : StsAt w A' m st) (hn : n ≤ 1048576) (hc : n ≤ c) (hc2 : c ≤ 9223372036854775807) (hm : m ≤ 9223372036854775807) (he : evSum l ≤ 1048576) :
    Calls Tryd.prog 23 #[.slice A n c, .slice A' m cp'] w (TellVs (textsT l (qfindK l st n) (qfindK l st n).length) w) := by
  obtain ⟨j0, hj0, hy0, hy1, hy2⟩ := info_parts Tryd.infoStr
  have F := qfind_any A n c l A' m cp' st w hl hs hn hc hc2 hm
  have hxl := qfindK_len l st n
  have hxat := fun (i : Nat) (x : Int) (h : (qfindK l st n)[i]? = some x) => qfindK_at h
  generalize qfindK l st n = xs at *
  have F := Lib.hid F
  have L := Lib.hid hl
  have XA := Lib.hid hxat
  have HES := Lib.hid he
  clear hl hs hxat
  go_enter Tryd.func23, Tryd.ntmps23
  go_wp2_with fail
  refine F.out.mono ?_
  rintro e w1 ⟨A1, c1, rfl, -, -, hown, hB1⟩
  have HI := Lib.hid (IntsAt.of_own hown)
  have HB1 := Lib.hid hB1
  clear hown hB1 F
  go_wp2
  go_loopw [5, 14] (fun o i wr => ∃ (k : Nat) (v : Value), v = o ∧ k ≤ xs.length ∧ i = .int .i64 k ∧ Hid (wr.ownsRow w1.heap.size 9 1 v (textsT l xs k).length (strCells (textsT l xs k))) ∧ Hid (Below w1.heap.size w1 wr)) (fun _ i _ => xs.length - (intOf i).toNat)
  case atStart => exact ⟨0, _, rfl, by omega, rfl, World.ownsRow_nil _ _ _ _, Below.refl _ _⟩
  case round =>
    obtain ⟨k, v, rfl, hk', rfl, HO, HB⟩ := hrel
    by_cases hlt : k < xs.length
    · obtain ⟨ax, x, rfl, hx, -, hcx⟩ := (HI.out.below HB.out).2 k hlt
      obtain ⟨i, rfl, hin⟩ := XA.out k x hx
      obtain ⟨a, e, rfl, hxe, -, -⟩ := L.out.2 i hin
      have HBw := HB1.out.trans (HB.out.mono HB1.out.size)
      have SP := span_any (some a) n c l i e wr (L.out.below HBw) (by omega) hc hxe
      have SP := Lib.hid SP
      have HBW := Lib.hid HBw
      have b0 : (0 : Int) ≤ (k : Int) := by omega
      have b1 : (k : Int) < (xs.length : Int) := by omega
      have hts := textsT_succ (l := l) hx
      have htl := textsT_len l xs k
      have hln := L.out.1
      have hsh := span_shape l i (by omega)
      unfold textT at hts
      generalize textsT l xs k = ys at *
      generalize endT l i = to at *
      have HTS := Lib.hid hts
      have HTL := Lib.hid htl
      have HSH := Lib.hid hsh
      clear hx hxe hts htl hsh HBw
      have hto : i ≤ to ∧ to < n := by
        rcases HSH.out with ⟨t, _, h1, h2, h3⟩ | ⟨_, h3⟩
        · omega
        · omega
      go_wp2_with fail
      refine SP.out.mono ?_
      rintro x w2 ⟨rfl, hB2⟩
      have HO2 := Lib.hid (ownRow_below HO.out hB2)
      have HB2 := Lib.hid (HB.out.trans (hB2.mono HB.out.size))
      have HBW2 := Lib.hid (HBW.out.trans (hB2.mono HBW.out.size))
      have TX := textD_any (some (a.add (i * 5))) (to + 1 - i) (c - i) ((l.drop i).take (to + 1 - i)) w2 (((L.out.below HBW2.out).drop i).takeQ (by omega)) (Nat.le_trans (sub_sum _ _ _) HES.out) (by omega)
      have TX := Lib.hid TX
      have s1 : IntKind.i64.wrap ((to : Int) + 1) = (to : Int) + 1 := IntWalk.i64_in _ (by omega)
      have s2 : IntKind.i64.wrap ((n : Int) - 1) = (n : Int) - 1 := IntWalk.i64_in _ (by omega)
      have t3 : ¬ c = i := by omega
      clear hB2 SP
      rcases HSH.out with ⟨t, h1, _, _, h3⟩ | ⟨h1, h3⟩
      · subst h3
        rw [h1]
        clear h1
        go_wp2_with fail
        refine TX.out.mono ?_
        rintro x w3 ⟨rfl, hB3⟩
        have HO3 := Lib.hid (ownRow_below HO2.out hB3)
        have HB3 := Lib.hid (HB2.out.trans (hB3.mono HB2.out.size))
        have hz3 := HB3.out.size
        generalize textK (List.take (to + 1 - i) (List.drop i l)) (to + 1 - i) = s at *
        clear hB3 TX HO2 HB2 HBW2
        go_wp2_with (at_builtin; refine wpList_append_own_at _ rfl (.tmp 29) (.tmp 36) 23 rfl w1.heap.size 9 j0 (.string ⟨#[]⟩) 1 16 Tryd.underlying23 hj0 hy0 hy1 hy2 rfl (by decide) _ _ _ rfl (HO3.out.alloc _) ⟨w3.heap.size, 0, none⟩ 1 1 [.string s] rfl rfl (strCell_new _ _ _) ?k2 ?k3 ?k4 ?k5 ?_)
        case k2 => exact str_news _ rfl
        case k3 => have := HTL.out; unfold maxLen; omega
        case k4 => have := HTL.out; omega
        case k5 => simp; omega
        intro o' w5 hown' hgrow _ hblk
        have HB5 := Lib.hid ((HB3.out.alloc hz3 _).grown hgrow (by simp; omega) (fun g hg => (HO3.out.lt g hg).1))
        have r1 : strCells ys ++ [.string s] = strCells (textsT l xs (k + 1)) := by rw [HTS.out, strCells_snoc]
        have r2 : ys.length + 1 = (textsT l xs (k + 1)).length := by rw [HTS.out, List.length_append]; rfl
        rw [r1, r2] at hown'
        have HO5 := Lib.hid hown'
        clear hown' hgrow hblk r1 r2
        go_wp2
        go_roundw
        case rel => exact ⟨k + 1, _, rfl, by omega, by go_num, HO5, HB5⟩
        case measure => simp [intOf]; omega
      · rw [hln] at h3
        subst h3
        rw [h1]
        have s3 : (n : Int) - 1 = ((n - 1 : Nat) : Int) := by omega
        clear h1
        go_wp2_with fail
        refine TX.out.mono ?_
        rintro x w3 ⟨rfl, hB3⟩
        have HO3 := Lib.hid (ownRow_below HO2.out hB3)
        have HB3 := Lib.hid (HB2.out.trans (hB3.mono HB2.out.size))
        have hz3 := HB3.out.size
        generalize textK (List.take (n - 1 + 1 - i) (List.drop i l)) (n - 1 + 1 - i) = s at *
        clear hB3 TX HO2 HB2 HBW2
        go_wp2_with (at_builtin; refine wpList_append_own_at _ rfl (.tmp 29) (.tmp 36) 23 rfl w1.heap.size 9 j0 (.string ⟨#[]⟩) 1 16 Tryd.underlying23 hj0 hy0 hy1 hy2 rfl (by decide) _ _ _ rfl (HO3.out.alloc _) ⟨w3.heap.size, 0, none⟩ 1 1 [.string s] rfl rfl (strCell_new _ _ _) ?k2 ?k3 ?k4 ?k5 ?_)
        case k2 => exact str_news _ rfl
        case k3 => have := HTL.out; unfold maxLen; omega
        case k4 => have := HTL.out; omega
        case k5 => simp; omega
        intro o' w5 hown' hgrow _ hblk
        have HB5 := Lib.hid ((HB3.out.alloc hz3 _).grown hgrow (by simp; omega) (fun g hg => (HO3.out.lt g hg).1))
        have r1 : strCells ys ++ [.string s] = strCells (textsT l xs (k + 1)) := by rw [HTS.out, strCells_snoc]
        have r2 : ys.length + 1 = (textsT l xs (k + 1)).length := by rw [HTS.out, List.length_append]; rfl
        rw [r1, r2] at hown'
        have HO5 := Lib.hid hown'
        clear hown' hgrow hblk r1 r2
        go_wp2
        go_roundw
        case rel => exact ⟨k + 1, _, rfl, by omega, by go_num, HO5, HB5⟩
        case measure => simp [intOf]; omega
    · obtain rfl : k = xs.length := by omega
      obtain ⟨A2, c2, rfl⟩ := ownRow_shape HO.out
      obtain ⟨h1, h2, _⟩ := ownRow_cap HO.out
      have hS := StrsAt.of_own HO.out
      have HS := Lib.hid hS
      clear hS
      go_wp2
      go_ret
      exact ⟨A2, c2, rfl, h1, h2, HS.out, HB1.out.trans (HB.out.mono HB1.out.size)⟩
set_option maxRecDepth 100000 in
set_option maxHeartbeats 4000000 in
theorem rqtexts_any (A : Option Addr) (n c : Nat) (l : List Ev) (A' : Option Addr) (m cp' : Nat) (st : List StN) (w : World) (hl : EvsAt w A n l) (hs : StsAt w A' m st) (hn : n ≤ 1048576) (hc : n ≤ c) (hc2 : c ≤ 9223372036854775807) (hm : m ≤ 9223372036854775807) (he : evSum l ≤ 1048576) :
    Calls Tryd.prog 24 #[.slice A n c, .slice A' m cp'] w (TellVs (textsT l (qfindK l st n) (qfindK l st n).length) w) := by
  obtain ⟨j0, hj0, hy0, hy1, hy2⟩ := info_parts Tryd.infoStr
  have F := rqfind_any A n c l A' m cp' st w hl hs hn hm
  have hxl := qfindK_len l st n
  have hxat := fun (i : Nat) (x : Int) (h : (qfindK l st n)[i]? = some x) => qfindK_at h
  generalize qfindK l st n = xs at *
  have F := Lib.hid F
  have L := Lib.hid hl
  have XA := Lib.hid hxat
  have HES := Lib.hid he
  clear hl hs hxat
  go_enter Tryd.func24, Tryd.ntmps24
  go_wp2_with fail
  refine F.out.mono ?_
  rintro e w1 ⟨A1, c1, rfl, -, -, hown, hB1⟩
  have HI := Lib.hid (IntsAt.of_own hown)
  have HB1 := Lib.hid hB1
  clear hown hB1 F
  go_wp2
  go_loopw [6, 7] (fun o i wr => ∃ (k : Nat) (v : Value), v = o ∧ k ≤ xs.length ∧ i = .int .i64 k ∧ Hid (wr.ownsRow w1.heap.size 9 1 v (textsT l xs k).length (strCells (textsT l xs k))) ∧ Hid (Below w1.heap.size w1 wr)) (fun _ i _ => xs.length - (intOf i).toNat)
  case atStart => exact ⟨0, _, rfl, by omega, rfl, World.ownsRow_nil _ _ _ _, Below.refl _ _⟩
  case round =>
    obtain ⟨k, v, rfl, hk', rfl, HO, HB⟩ := hrel
    by_cases hlt : k < xs.length
    · obtain ⟨ax, x, rfl, hx, hxb, hcx⟩ := (HI.out.below HB.out).2 k hlt
      obtain ⟨i, rfl, hin⟩ := XA.out k x hx
      obtain ⟨a, e, rfl, hxe, -, -⟩ := L.out.2 i hin
      have HBw := HB1.out.trans (HB.out.mono HB1.out.size)
      have SP := rspan_any (some a) n c l i e wr (L.out.below HBw) hn hxe
      have SP := Lib.hid SP
      have HBW := Lib.hid HBw
      have b0 : (0 : Int) ≤ (k : Int) := by omega
      have b1 : (k : Int) < (xs.length : Int) := by omega
      have hts := textsT_succ (l := l) hx
      have htl := textsT_len l xs k
      have hln := L.out.1
      have hsh := span_shape l i (by omega)
      unfold textT at hts
      generalize textsT l xs k = ys at *
      generalize endT l i = to at *
      have HTS := Lib.hid hts
      have HTL := Lib.hid htl
      have HSH := Lib.hid hsh
      clear hx hxe hts htl hsh HBw
      have hto : i ≤ to ∧ to < n := by
        rcases HSH.out with ⟨t, _, h1, h2, h3⟩ | ⟨_, h3⟩
        · omega
        · omega
      go_wp2_with fail
      refine SP.out.mono ?_
      rintro x w2 ⟨rfl, hB2⟩
      have HO2 := Lib.hid (ownRow_below HO.out hB2)
      have hcx2 := (hB2.cell (p := ax.add k) (by rw [addBlock]; exact hxb)).trans hcx
      have HB2 := Lib.hid (HB.out.trans (hB2.mono HB.out.size))
      have HBW2 := Lib.hid (HBW.out.trans (hB2.mono HBW.out.size))
      have TX := rtextD_any (some (a.add (i * 5))) (to + 1 - i) (c - i) ((l.drop i).take (to + 1 - i)) w2 (((L.out.below HBW2.out).drop i).takeQ (by omega)) (Nat.le_trans (sub_sum _ _ _) HES.out) (by omega)
      have TX := Lib.hid TX
      have s1 : IntKind.i64.wrap ((to : Int) + 1) = (to : Int) + 1 := IntWalk.i64_in _ (by omega)
      have s2 : IntKind.i64.wrap ((n : Int) - 1) = (n : Int) - 1 := IntWalk.i64_in _ (by omega)
      have t3 : ¬ c = i := by omega
      clear hB2 SP
      rcases HSH.out with ⟨t, h1, _, _, h3⟩ | ⟨h1, h3⟩
      · subst h3
        rw [h1]
        clear h1
        go_wp2_with fail
        refine TX.out.mono ?_
        rintro x w3 ⟨rfl, hB3⟩
        have HO3 := Lib.hid (ownRow_below HO2.out hB3)
        have HB3 := Lib.hid (HB2.out.trans (hB3.mono HB2.out.size))
        have hz3 := HB3.out.size
        generalize textK (List.take (to + 1 - i) (List.drop i l)) (to + 1 - i) = s at *
        clear hB3 TX HO2 HB2 HBW2
        go_wp2_with (at_builtin; refine wpList_append_own_at _ rfl (.tmp 33) (.tmp 43) 23 rfl w1.heap.size 9 j0 (.string ⟨#[]⟩) 1 16 Tryd.underlying23 hj0 hy0 hy1 hy2 rfl (by decide) _ _ _ rfl (HO3.out.alloc _) ⟨w3.heap.size, 0, none⟩ 1 1 [.string s] rfl rfl (strCell_new _ _ _) ?k2 ?k3 ?k4 ?k5 ?_)
        case k2 => exact str_news _ rfl
        case k3 => have := HTL.out; unfold maxLen; omega
        case k4 => have := HTL.out; omega
        case k5 => simp; omega
        intro o' w5 hown' hgrow _ hblk
        have HB5 := Lib.hid ((HB3.out.alloc hz3 _).grown hgrow (by simp; omega) (fun g hg => (HO3.out.lt g hg).1))
        have r1 : strCells ys ++ [.string s] = strCells (textsT l xs (k + 1)) := by rw [HTS.out, strCells_snoc]
        have r2 : ys.length + 1 = (textsT l xs (k + 1)).length := by rw [HTS.out, List.length_append]; rfl
        rw [r1, r2] at hown'
        have HO5 := Lib.hid hown'
        clear hown' hgrow hblk r1 r2
        go_wp2
        go_roundw
        case rel => exact ⟨k + 1, _, rfl, by omega, by go_num, HO5, HB5⟩
        case measure => simp [intOf]; omega
      · rw [hln] at h3
        subst h3
        rw [h1]
        have s3 : (n : Int) - 1 = ((n - 1 : Nat) : Int) := by omega
        clear h1
        go_wp2_with fail
        refine TX.out.mono ?_
        rintro x w3 ⟨rfl, hB3⟩
        have HO3 := Lib.hid (ownRow_below HO2.out hB3)
        have HB3 := Lib.hid (HB2.out.trans (hB3.mono HB2.out.size))
        have hz3 := HB3.out.size
        generalize textK (List.take (n - 1 + 1 - i) (List.drop i l)) (n - 1 + 1 - i) = s at *
        clear hB3 TX HO2 HB2 HBW2
        go_wp2_with (at_builtin; refine wpList_append_own_at _ rfl (.tmp 33) (.tmp 43) 23 rfl w1.heap.size 9 j0 (.string ⟨#[]⟩) 1 16 Tryd.underlying23 hj0 hy0 hy1 hy2 rfl (by decide) _ _ _ rfl (HO3.out.alloc _) ⟨w3.heap.size, 0, none⟩ 1 1 [.string s] rfl rfl (strCell_new _ _ _) ?k2 ?k3 ?k4 ?k5 ?_)
        case k2 => exact str_news _ rfl
        case k3 => have := HTL.out; unfold maxLen; omega
        case k4 => have := HTL.out; omega
        case k5 => simp; omega
        intro o' w5 hown' hgrow _ hblk
        have HB5 := Lib.hid ((HB3.out.alloc hz3 _).grown hgrow (by simp; omega) (fun g hg => (HO3.out.lt g hg).1))
        have r1 : strCells ys ++ [.string s] = strCells (textsT l xs (k + 1)) := by rw [HTS.out, strCells_snoc]
        have r2 : ys.length + 1 = (textsT l xs (k + 1)).length := by rw [HTS.out, List.length_append]; rfl
        rw [r1, r2] at hown'
        have HO5 := Lib.hid hown'
        clear hown' hgrow hblk r1 r2
        go_wp2
        go_roundw
        case rel => exact ⟨k + 1, _, rfl, by omega, by go_num, HO5, HB5⟩
        case measure => simp [intOf]; omega
    · obtain rfl : k = xs.length := by omega
      obtain ⟨A2, c2, rfl⟩ := ownRow_shape HO.out
      obtain ⟨h1, h2, _⟩ := ownRow_cap HO.out
      have hS := StrsAt.of_own HO.out
      have HS := Lib.hid hS
      clear hS
      go_wp2
      go_ret
      exact ⟨A2, c2, rfl, h1, h2, HS.out, HB1.out.trans (HB.out.mono HB1.out.size)⟩
end Go.Proofs.YtlifdmehejehjaaDoor
