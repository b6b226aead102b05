/- The walk of JoinTexts. Conditions: the events count together at most 2^20. -/
import Derived.Test.YtlaagmhpghehaaaJoinTextPlain
import Derived.Test.YtlaagmhpghehaaaJoinAlls
namespace Go.Proofs.Ytlaagmhpghehaaa
open Go.RowKit
theorem eqlNilFn (W : World) : (binOp .eql 35 .nilFunc .nilFunc).run Try.prog W = .ok (.bool true) W := by kernel_rfl
theorem put_nilptr (e : Ev) (w : World) : Calls Try.prog 16 #[.pointer none, .agg #[.int .i64 e.k, .string e.sp, .string e.lo, .slice e.A e.n e.c, .string e.tx]] w (BelI 1 w) := by
  go_enter Try.func16, Try.ntmps16
  go_wp2
  go_ret
  exact ⟨rfl, (Below.refl _ w).alloc (Nat.le_refl _) _⟩
theorem flush_nilptr (w : World) : Calls Try.prog 17 #[.pointer none] w (BelI 1 w) := by
  go_enter Try.func17, Try.ntmps17
  go_wp2
  go_ret
  exact ⟨rfl, Below.refl _ w⟩
theorem new_nil (w : World) : Calls Try.prog 14 #[.nilFunc] w fun e w' => e = .returned (.pointer (some ⟨w.heap.size, 0, none⟩)) ∧ JAt w.heap.size .nilFunc (.pointer none) (.slice none 0 0) w' ∧ Below w.heap.size w w' := by
  go_enter Try.func14, Try.ntmps14
  go_wp2
  go_ret
  exact ⟨rfl, heap_alloc_new w _, (Below.refl _ w).alloc (Nat.le_refl _) _⟩
theorem flush_nilfn (b : Nat) (p v : Value) (w : World) (h : JAt b .nilFunc p v w) : Calls Try.prog 17 #[.pointer (some ⟨b, 0, none⟩)] w (BelI 1 w) := by
  have c0 := h.c0
  have q0 := eqlNilFn
  clear h
  go_enter Try.func17, Try.ntmps17
  go_wp2
  go_ret
  exact ⟨rfl, Below.refl _ w⟩
theorem put_nilfn (e : Ev) (b : Nat) (p v : Value) (w : World) (h : JAt b .nilFunc p v w) : Calls Try.prog 16 #[.pointer (some ⟨b, 0, none⟩), .agg #[.int .i64 e.k, .string e.sp, .string e.lo, .slice e.A e.n e.c, .string e.tx]] w (BelI 1 w) := by
  obtain ⟨W, hW, hB1, _, _, _, _, _⟩ := evBox w e 33
  have c0 := (h.kept (KeptT.below (bad := fun _ => False) hB1) (fun h => h)).c0
  have q0 := eqlNilFn
  clear h
  go_enter Try.func16, Try.ntmps16
  go_wp2
  go_ret
  exact ⟨rfl, hB1⟩
theorem catT_succ (l : List Ev) (k : Nat) (e : Ev) (h : l[k]? = some e) : catT (l.take (k + 1)) = addT (catT (l.take k)) e := by
  rw [List.take_add_one, h]; exact catT_app _ _
theorem catT_size (l : List Ev) (k : Nat) : (catT (l.take k)).size ≤ evSum (l.take k) := by
  induction k with
  | zero => exact Nat.zero_le _
  | succ k ih =>
    cases h : l[k]? with
    | none =>
      have h1 : l.length ≤ k := List.getElem?_eq_none_iff.1 h
      rw [List.take_of_length_le (by omega)]
      rw [List.take_of_length_le h1] at ih
      exact ih
    | some e =>
      rw [catT_succ l k e h, evSum_take l k e h]
      have : e.tx.size ≤ e.all := by unfold Ev.all Ev.size; omega
      unfold addT
      split
      · rw [ByteArray.size_append]; omega
      · omega
set_option maxRecDepth 100000 in
set_option maxHeartbeats 8000000 in
theorem joinTexts_any (A : Option Addr) (n c : Nat) (l : List Ev) (w : World) (hl : EvsAt w A n l) (hn : n ≤ 1048576) (hs : evSum l ≤ 1048576) :
    Calls Try.prog 5 #[.slice A n c] w (BelB true w) := by
  have L := Lib.hid hl
  have G1 := Lib.hid (great_any A n c l w hl (by omega))
  have hsum := Lib.hid (show sumM l ≤ 1048576 by rw [← sumM_ok hl.ok]; exact hs)
  clear hl
  cases hg : greatB n l with
  | true =>
    have H1 := Lib.hid hg
    clear hg
    go_enter Try.func5, Try.ntmps5
    go_wp2_with fail
    refine G1.out.mono ?_
    rintro x w1 ⟨rfl, hC⟩
    rw [H1.out]
    go_wp2_with fail
    refine (live37_any _).mono ?_
    rintro x w9 ⟨rfl, hB9⟩
    go_wp2
    go_ret
    exact ⟨rfl, hC.trans (hB9.mono hC.size)⟩
  | false =>
    have H1 := Lib.hid hg
    have hn1 : n ≤ 100 := by unfold greatB at hg; simp at hg; omega
    clear hg
    go_enter Try.func5, Try.ntmps5
    go_wp2_with fail
    refine G1.out.mono ?_
    rintro x w1 ⟨rfl, hC⟩
    rw [H1.out]
    go_wp2_with fail
    refine (all_any A n c l w1 (L.out.below hC) hn hs).mono ?_
    rintro x w2 ⟨outs, A2, c2, rfl, hsame, hE2, _, _, hB2⟩
    have HC := Lib.hid (hC.trans (hB2.mono hC.size))
    have E2 := Lib.hid hE2
    have L2 := Lib.hid (L.out.below HC.out)
    have FN := Lib.hid (fine_same hsame (fine_all l))
    have CT := Lib.hid (show catT outs = catT l by rw [← catT_all l]; exact catT_same _ _ _ hsame)
    have hol : outs.length ≤ 201 := by
      have h1 := ((sameEvs_iff _ _).1 hsame).1
      have h2 : (allJ l).length ≤ 2 * l.length + 1 := by have := flushJ_len (runJ l l.length); have := runJ_len l l.length; unfold allJ; omega
      have := L.out.1
      omega
    have hos : evSum outs ≤ 1048576 := by rw [sumM_ok hE2.ok, sumM_same hsame]; exact Nat.le_trans (sumM_all l) hsum.out
    generalize hom : outs.length = m at *
    have OM := Lib.hid hom
    clear hC hB2 hE2 hsame hom
    go_wp2
    go_loop [3, 6] (fun s i => ∃ (k : Nat), k ≤ n ∧ i = .int .i64 k ∧ s = .string (catT (l.take k))) (fun _ i => n - (intOf i).toNat)
    case atStart => exact ⟨0, by omega, rfl, rfl⟩
    case round =>
      obtain ⟨k, hk, rfl, rfl⟩ := hrel
      by_cases hlt : k < n
      · obtain ⟨a, e, hA, hx, he, hok⟩ := L2.out.2 k hlt
        subst hA
        have b0 : (0 : Int) ≤ (k : Int) := by omega
        have b1 : (k : Int) < (n : Int) := by omega
        obtain ⟨_, g0, g1, g2, g3, g4⟩ := he
        have h1 := catT_size l k
        have h2 := evSum_le l k
        have h3 : e.tx.size ≤ evSum l := Nat.le_trans (by unfold Ev.all Ev.size; omega : e.tx.size ≤ e.all) (evSum_mem hx)
        have F := Lib.hid (catT_succ l k e hx)
        by_cases h : e.k = 3
        · have q1 : (e.k == 3) = true := by simpa using h
          have F2 := Lib.hid (F.out.trans (if_pos h))
          have hS := fun w' => run_string_add (P := Try.prog) w' (catT (l.take k)) e.tx (by omega) (by omega)
          clear h hx hok
          go_wp2
          go_round
          case rel => exact ⟨k + 1, by omega, by go_num, by rw [F2.out]⟩
          case measure => simp [intOf]; omega
        · have q1 : (e.k == 3) = false := by simpa using h
          have F2 := Lib.hid (F.out.trans (if_neg h))
          clear h hx hok
          go_wp2
          go_round
          case rel => exact ⟨k + 1, by omega, by go_num, by rw [F2.out]⟩
          case measure => simp [intOf]; omega
      · obtain rfl : k = n := by omega
        have hfull : catT (l.take k) = catT outs := by rw [CT.out, ← L.out.1, List.take_length]
        rw [hfull]
        clear hfull
        go_wp2
        go_loop [4, 7] (fun s i => ∃ (j : Nat), j ≤ m ∧ i = .int .i64 j ∧ s = .string (catT (outs.take j))) (fun _ i => m - (intOf i).toNat)
        case atStart => exact ⟨0, by omega, rfl, rfl⟩
        case round =>
          obtain ⟨j, hj, rfl, rfl⟩ := hrel
          by_cases hjt : j < m
          · obtain ⟨a, e, hA, hx, he, hok⟩ := E2.out.2 j hjt
            subst hA
            have b0 : (0 : Int) ≤ (j : Int) := by omega
            have b1 : (j : Int) < (m : Int) := by omega
            obtain ⟨_, g0, g1, g2, g3, g4⟩ := he
            have h1 := catT_size outs j
            have h2 := evSum_le outs j
            have h3 : e.tx.size ≤ evSum outs := Nat.le_trans (by unfold Ev.all Ev.size; omega : e.tx.size ≤ e.all) (evSum_mem hx)
            have F := Lib.hid (catT_succ outs j e hx)
            by_cases h : e.k = 3
            · have q1 : (e.k == 3) = true := by simpa using h
              have F2 := Lib.hid (F.out.trans (if_pos h))
              have hS := fun w' => run_string_add (P := Try.prog) w' (catT (outs.take j)) e.tx (by omega) (by omega)
              have hfine := FN.out j e hx h
              have q2 := toE_no hfine.1
              rcases Nat.eq_zero_or_pos j with hj0 | hj0
              · subst hj0
                have z : a.add (0 * 5) = a := by simp [Addr.add]
                rw [z] at g0 g1 g2 g3 g4
                simp only [List.take_zero] at hS
                have F3 := Lib.hid (show catT (outs.take 1) = catT [] ++ e.tx from F2.out)
                clear h hx hok hfine h1 h2 h3
                go_wp2
                go_round
                case rel => exact ⟨1, by omega, rfl, by rw [F3.out]⟩
                case measure => simp [intOf]; omega
              · obtain ⟨q, hq⟩ : ∃ q, j = q + 1 := ⟨j - 1, by omega⟩
                obtain ⟨a', f, hA, hy, hf, _⟩ := E2.out.2 q (by omega)
                cases hA
                have hfk : ¬ f.k = 3 := hfine.2 f hj0 (by rw [hq]; exact hy)
                have q3 : (f.k == 3) = false := by simpa using hfk
                obtain ⟨_, i0, _⟩ := hf
                have s1 : IntKind.i64.wrap ((j : Int) - 1) = (q : Int) := by rw [IntWalk.i64_in _ (by omega)]; omega
                have b2 : (0 : Int) ≤ (q : Int) := by omega
                have b3 : (q : Int) < (m : Int) := by omega
                have b4 : (0 : Int) < (j : Int) := by omega
                clear h hx hok hfine h1 h2 h3 hq hy hfk
                go_wp2
                go_round
                case rel => exact ⟨j + 1, by omega, by go_num, by rw [F2.out]⟩
                case measure => simp [intOf]; omega
            · have q1 : (e.k == 3) = false := by simpa using h
              have F2 := Lib.hid (F.out.trans (if_neg h))
              clear h hx hok h1 h2 h3
              go_wp2
              go_round
              case rel => exact ⟨j + 1, by omega, by go_num, by rw [F2.out]⟩
              case measure => simp [intOf]; omega
          · obtain rfl : j = m := by omega
            have hfull2 : catT (outs.take j) = catT outs := by rw [← OM.out, List.take_length]
            rw [hfull2]
            clear hfull2
            go_wp2_with fail
            refine (put_nilptr (lj 0 ⟨#[]⟩) _).mono ?_
            rintro x w3 ⟨rfl, hB3⟩
            have hC := HC.out.trans (hB3.mono HC.out.size)
            clear hB3
            go_wp2_with fail
            refine (flush_nilptr _).mono ?_
            rintro x w4 ⟨rfl, hB4⟩
            have hC := hC.trans (hB4.mono hC.size)
            clear hB4
            go_wp2_with fail
            refine (new_nil _).mono ?_
            rintro x w5 ⟨rfl, hj5, hB5⟩
            have hC := hC.trans (hB5.mono hC.size)
            clear hB5
            go_wp2_with fail
            refine (flush_nilfn _ _ _ _ hj5).mono ?_
            rintro x w6 ⟨rfl, hB6⟩
            have hC := hC.trans (hB6.mono hC.size)
            clear hB6 hj5
            go_wp2_with fail
            refine (new_nil _).mono ?_
            rintro x w7 ⟨rfl, hj7, hB7⟩
            have hC := hC.trans (hB7.mono hC.size)
            clear hB7
            go_wp2_with fail
            refine (put_nilfn (lj 3 ⟨#[]⟩) _ _ _ _ hj7).mono ?_
            rintro x w8 ⟨rfl, hB8⟩
            have hC := hC.trans (hB8.mono hC.size)
            clear hB8 hj7
            go_wp2_with fail
            refine (live37_any _).mono ?_
            rintro x w9 ⟨rfl, hB9⟩
            go_wp2
            go_ret
            exact ⟨rfl, hC.trans (hB9.mono hC.size)⟩
end Go.Proofs.Ytlaagmhpghehaaa
