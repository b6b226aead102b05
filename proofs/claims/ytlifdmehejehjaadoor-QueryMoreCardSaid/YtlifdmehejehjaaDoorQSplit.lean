/- The contract of strings.SplitSeq at a slash: its iterator tells the parts of a text, one by one. Conditions: texts of at most 2^20 bytes. -/
import Derived.Test.YtlifdmehejehjaaDoorQCuts
import Derived.Test.YtlifdmehejehjaaDoorRangeSeqR
import Derived.Test.YtlifdmehejehjaaDoorShelf
import Derived.Shelf.Abstract
import Derived.Shelf.RegionOpen
import Derived.OwnWalkIn
import Derived.TacticsInMore
import Derived.LoopNIn
import Derived.LoopIn
import Derived.Lib.SmallJoins
namespace Go.Proofs.YtlifdmehejehjaaDoor
open Go.RowKit Go.Shelf Go.Proofs.YtlifdmehejehjaaDoor.QPlain
attribute [local go_sem] Oper.semAt_some
set_option linter.unusedVariables false
set_option linter.unusedSimpArgs false
/-- What a round must keep: the three boxes of the iterator. -/
def KpS (Bp Bs Bq : Nat) (W W' : World) : Prop := W'.heap[Bp]? = W.heap[Bp]? ∧ W'.heap[Bs]? = W.heap[Bs]? ∧ W'.heap[Bq]? = W.heap[Bq]?
theorem KpS.trans {Bp Bs Bq : Nat} {A B C : World} (h : KpS Bp Bs Bq A B) (k : KpS Bp Bs Bq B C) : KpS Bp Bs Bq A C := ⟨k.1.trans h.1, k.2.1.trans h.2.1, k.2.2.trans h.2.2⟩
theorem KpS.put {Bp Bs Bq n₀ : Nat} (h1 : Bp < n₀) (h2 : Bs < n₀) (h3 : Bq < n₀) (W : World) (l : Nat) (o o' : Obj) (hl : n₀ ≤ l) (_ : W.heap[l]? = some o) (_ : o.isCells = false) (_ : o.isWalk = false) : KpS Bp Bs Bq W (W.putObj l o') :=
  ⟨World.putObj_heap_other (by omega), World.putObj_heap_other (by omega), World.putObj_heap_other (by omega)⟩
def boxSize (W : World) (B : Nat) : Nat := match W.cell? ⟨B, 0, none⟩ with | some (.string t) => t.size | _ => 0
theorem boxSize_of {W : World} {B : Nat} {T : TypeId} {t : ByteArray} (h : Boxed W B T (.string t)) : boxSize W B = t.size := by unfold boxSize; rw [h.cell]
theorem ext_ext (s : ByteArray) (i j k : Nat) (h : i + k ≤ s.size) : (s.extract i s.size).extract j k = s.extract (i + j) (i + k) := by
  apply Go.WideShapes.bytes_inj
  simp only [ByteArray.data_extract, Array.toList_extract, List.extract_eq_take_drop, List.drop_take, List.drop_drop, List.take_take]
  congr 1
  omega
theorem ext_all (s : ByteArray) : s.extract 0 s.size = s := by
  apply Go.WideShapes.bytes_inj
  simp only [ByteArray.data_extract, Array.toList_extract, List.extract_eq_take_drop]
  have : s.size = s.data.toList.length := by simp
  rw [List.drop_zero, Nat.sub_zero, List.take_of_length_le (by omega)]
theorem ext_list (s : ByteArray) (i : Nat) : (s.extract i s.size).data.toList = s.data.toList.drop i := by
  simp only [ByteArray.data_extract, Array.toList_extract, List.extract_eq_take_drop]
  rw [List.take_of_length_le]
  have : s.size = s.data.toList.length := by simp
  rw [List.length_drop]; omega
theorem toListZ (s : ByteArray) : s.data.toList.length = s.size := by simp
theorem partsN_no {s : ByteArray} {i : Nat} (h : slash s.data.toList i < 0) : partsN s i = [s.extract i s.size] := by unfold partsN; rw [cutsN_no h, toListZ]; rfl
theorem partsN_yes {s : ByteArray} {i d : Nat} (h : slash s.data.toList i = d) : partsN s i = s.extract i (i + d) :: partsN s (i + d + 1) := by unfold partsN; rw [cutsN_yes h]; rfl
theorem boxed_set {W : World} {B : Nat} {t : TypeId} {v : Value} (h : Boxed W B t v) (u : Value) : Boxed (W.setCell ⟨B, 0, none⟩ u) B t u := by
  have := Go.Joins.block_setCell (i := 0) (show W.heap[B]? = some (.cells #[v] t (0, 0)) from h) u
  show (W.setCell ⟨B, 0, none⟩ u).heap[B]? = _
  rw [this]; rfl
set_option maxRecDepth 100000 in
set_option maxHeartbeats 4000000 in
theorem split1_in (n : Nat) (hn : 1 ≤ n) (l Bp Bs Bq : Nat) (h12 : Bp ≠ Bs) (h32 : Bq ≠ Bs) (s : ByteArray) (hlen : s.size ≤ 1048576) (J Jx : List ByteArray → World → Prop)
    (hJs : ∀ q A v, J q A → J q (A.setCell ⟨Bs, 0, none⟩ v))
    (hY : ∀ pre x W, pre ++ [x] <+: partsN s 0 → J pre W → YieldAt Fence.wide (n - 1) Tryd.prog l #[.string x] W fun e W' =>
      (e = .returned (.bool true) ∧ J (pre ++ [x]) W' ∧ KpS Bp Bs Bq W W') ∨ (e = .returned (.bool false) ∧ Jx (pre ++ [x]) W'))
    (W : World) (bp : Boxed W Bp 9 (.string ⟨#[47]⟩)) (bs : Boxed W Bs 9 (.string s)) (bq : Boxed W Bq 3 (.int .i64 0)) (h0 : J [] W) :
    CallsIn Fence.wide n Tryd.prog 48 #[.func (.yield l) #[] #[], .pointer (some ⟨Bp, 0, none⟩), .pointer (some ⟨Bs, 0, none⟩), .pointer (some ⟨Bq, 0, none⟩)] W fun e W' => (∃ v, e = .returned v) ∧
      (J (partsN s 0) W' ∨ (∃ pre, pre <+: partsN s 0 ∧ Jx pre W')) := by
  have p1 := bp.cell
  obtain ⟨ys, hys⟩ : ∃ ys, ys = partsN s 0 := ⟨_, rfl⟩
  have hY : ∀ pre x W, pre ++ [x] <+: ys → J pre W → YieldAt Fence.wide (n - 1) Tryd.prog l #[.string x] W fun e W' =>
      (e = .returned (.bool true) ∧ J (pre ++ [x]) W' ∧ KpS Bp Bs Bq W W') ∨ (e = .returned (.bool false) ∧ Jx (pre ++ [x]) W') := by rw [hys]; exact hY
  have HYS := Lib.hid hys
  have hstart : Hid (ys = [] ++ partsN s 0) := by show _ = _; rw [hys]; rfl
  clear hys
  refine callsIn_of_wp Tryd.func48 rfl trivial ?_ rfl
  simp only [Tryd.ntmps48, List.size_toArray, List.length_cons, List.length_nil, Nat.reduceAdd, Nat.reduceSub, Array.replicate_succ, Array.replicate_zero, List.push_toArray, List.append_toArray, List.nil_append, List.cons_append]
  gi_wp2
  clear p1
  gi_loopw [7] (fun v7 wr => ∃ (i : Nat) (t : ByteArray) (pre : List ByteArray), i ≤ s.size ∧ Hid (t = s.extract i s.size) ∧ Hid (Boxed wr Bs 9 (.string t)) ∧ Hid (Boxed wr Bp 9 (.string ⟨#[47]⟩)) ∧ Hid (Boxed wr Bq 3 (.int .i64 0)) ∧ Hid (ys = pre ++ partsN s i) ∧ J pre wr) (fun _ wr => boxSize wr Bs)
  case atStart => exact ⟨0, s, [], Nat.zero_le _, (ext_all s).symm, bs, bp, bq, hstart, h0⟩
  case round =>
    obtain ⟨i, t, pre, hi, HT, HBs, HBp, HBq, HE, hJ⟩ := hrel
    have c1 := HBs.out.cell
    have c2 := HBp.out.cell
    have c3 := HBq.out.cell
    have f1 := HBs.out.frozen
    have ix := Tryd.strings_Index_one t 47 wr
    have hts : t.size = s.size - i := by rw [HT.out, ByteArray.size_extract]; omega
    have hsl : Lib.indexByte t.data.toList 47 = slash s.data.toList i := by rw [HT.out, ext_list]; rfl
    rw [hsl] at ix
    rcases Int.lt_or_le (slash s.data.toList i) 0 with hx | hx
    · have E2 : Hid (ys = pre ++ [t]) := by show _ = _; rw [HE.out, partsN_no hx, HT.out]
      have hneg : Hid (slash s.data.toList i = -1) := by
        show _ = _
        have := Lib.indexByte_ge (s.data.toList.drop i) 47
        unfold slash at *; omega
      have IX := Lib.hid ix
      clear hx ix hsl HE hts
      gi_wp2_with fail
      refine ⟨trivial, ?_⟩
      refine (callsIn_wide.2 IX.out).mono ?_
      rintro e w1 ⟨rfl, rfl⟩
      rw [hneg.out]
      obtain ⟨fn, tmps, assign, body, hy, hR⟩ := hY pre t w1 (by rw [E2.out]; exact List.prefix_rfl) hJ
      gi_wp2
      refine hR.mono ?_
      rintro e W3 (⟨rfl, hJ3, hk3⟩ | ⟨rfl, hJx3⟩)
      · gi_wp2
        refine bodyPost_end (results_none rfl _ _ _) rfl ?_
        exact ⟨⟨_, rfl⟩, .inl (by rw [← HYS.out, E2.out]; exact hJ3)⟩
      · gi_wp2
        refine bodyPost_end (results_none rfl _ _ _) rfl ?_
        exact ⟨⟨_, rfl⟩, .inr ⟨_, by rw [← HYS.out, E2.out]; exact List.prefix_rfl, hJx3⟩⟩
    · obtain ⟨d, hd⟩ : ∃ d : Nat, slash s.data.toList i = d := ⟨(slash s.data.toList i).toNat, by omega⟩
      have hlt := (slash_lt hd).1
      rw [toListZ] at hlt
      rw [hd] at ix
      have E2 : Hid (ys = (pre ++ [s.extract i (i + d)]) ++ partsN s (i + d + 1)) := by show _ = _; rw [HE.out, partsN_yes hd]; simp
      have hx1 : Hid (t.extract 0 d = s.extract i (i + d)) := by show _ = _; rw [HT.out, ext_ext s i 0 d (by omega), Nat.add_zero]
      have hx2 : Hid (t.extract (d + 1) t.size = s.extract (i + d + 1) s.size) := by
        show _ = _
        rw [hts, HT.out, ext_ext s i (d + 1) (s.size - i) (by omega), show i + (s.size - i) = s.size by omega, show i + (d + 1) = i + d + 1 by omega]
      have IX := Lib.hid ix
      have b0 : (0 : Int) ≤ (d : Int) := by omega
      have b1 : d ≤ t.size := by omega
      have b2 : (d : Int) ≤ (t.size : Int) := by omega
      have b3 : (d : Int) + 1 ≤ (t.size : Int) := by omega
      have b4 : d + 1 ≤ t.size := by omega
      have b5 : d < t.size := by omega
      clear hx ix hsl HE hd hts
      gi_wp2_with fail
      refine ⟨trivial, ?_⟩
      refine (callsIn_wide.2 IX.out).mono ?_
      rintro e w1 ⟨rfl, rfl⟩
      obtain ⟨fn, tmps, assign, body, hy, hR⟩ := hY pre (s.extract i (i + d)) w1 (by rw [E2.out]; exact List.prefix_append _ _) hJ
      rw [← hx1.out] at hy
      gi_wp2
      refine hR.mono ?_
      rintro e W3 (⟨rfl, hJ3, hk3⟩ | ⟨rfl, hJx3⟩)
      · have hB3 : Boxed W3 Bs 9 (.string t) := hk3.2.1.trans HBs.out
        have d1 := hB3.cell
        have d2 := hB3.frozen
        have hP3 : Boxed W3 Bp 9 (.string ⟨#[47]⟩) := hk3.1.trans HBp.out
        have d3 := hP3.cell
        have hS4 := boxed_set hB3 (.string (t.extract (d + 1) t.size))
        have hP4 := hP3.other h12 (.string (t.extract (d + 1) t.size))
        have hQ4 := (show Boxed W3 Bq 3 (.int .i64 0) from hk3.2.2.trans HBq.out).other h32 (.string (t.extract (d + 1) t.size))
        have hJ4 := hJs _ _ (.string (t.extract (d + 1) t.size)) hJ3
        have hm : Hid (boxSize (W3.setCell ⟨Bs, 0, none⟩ (.string (t.extract (d + 1) t.size))) Bs < boxSize w1 Bs) := by
          show _ < _
          rw [boxSize_of hS4, boxSize_of HBs.out, ByteArray.size_extract]; omega
        have HS4 := Lib.hid hS4
        have HP4 := Lib.hid hP4
        have HQ4 := Lib.hid hQ4
        clear hB3 hP3 hS4 hP4 hQ4 hk3 hJ3
        gi_wp2
        go_roundw
        case rel => exact ⟨i + d + 1, _, pre ++ [s.extract i (i + d)], by omega, hx2, HS4, HP4, HQ4, E2, hJ4⟩
        case measure => exact hm.out
      · gi_wp2
        refine bodyPost_ret (results_none rfl _ _ _) rfl ?_
        exact ⟨⟨_, rfl⟩, .inr ⟨_, by rw [← HYS.out, E2.out]; exact List.prefix_append _ _, hJx3⟩⟩
end Go.Proofs.YtlifdmehejehjaaDoor
