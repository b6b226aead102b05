/- The walk of ScopeFinds. Conditions: none. -/
import Derived.Test.YtbamcpnmabpacaaScLive
import Derived.Test.YtbamcpnmabpacaaScPlain
namespace Go.Proofs.Ytbamcpnmabpacaa
open Go.RowKit
set_option linter.unusedVariables false
set_option linter.unusedSimpArgs false
theorem cutHead {ls : List (List Bd)} {m : Nat} (h0 : ¬ m = 0) (hm : m ≤ ls.length) : ∃ f fs, (ls.take m).reverse = f :: fs ∧ (ls.take (m - 1)).reverse = fs := by
  obtain ⟨j, rfl⟩ : ∃ j, m = j + 1 := ⟨m - 1, by omega⟩
  refine ⟨ls[j], (ls.take j).reverse, ?_, by rw [Nat.add_sub_cancel]⟩
  rw [List.take_add_one, List.getElem?_eq_getElem (by omega)]
  simp
set_option maxRecDepth 100000 in
set_option maxHeartbeats 8000000 in
theorem scopeFinds_any (A : Option Addr) (n c : Nat) (ls : List (List Bd)) (x : ByteArray) (w : World) (h : RowsAt w A n ls) (hn : n ≤ 9223372036854775807) (hs : ∀ f ∈ ls, f.length ≤ 9000000000000000) (hnc : n ≤ c) :
    Calls Try.prog 3 #[.slice A n c, .string x] w (BelB true w) := by
  have CG := Lib.hid (great_any A n c ls w h hn hs)
  have H := Lib.hid h
  clear h hs
  go_enter Try.func3, Try.ntmps3
  go_wp2_with fail
  refine CG.out.mono ?_
  rintro e w1 ⟨bg, rfl, rfl, hbg⟩
  cases bg with
  | true =>
    go_wp2_with fail
    refine (live34_any w).mono ?_
    rintro e w2 ⟨rfl, hB2⟩
    go_wp2
    go_ret
    exact ⟨rfl, hB2⟩
  | false =>
    obtain ⟨hn30, hs60⟩ := hbg rfl
    have hfl : ∀ f ∈ ls, f.length ≤ 1048576 := fun f hf => Nat.le_trans (le_sum hf) (by omega)
    have HFL := Lib.hid hfl
    have CF := Lib.hid (fill_any A n c ls w H.out (by omega) hfl)
    have HS60 := Lib.hid hs60
    clear hbg hfl hs60 CG
    go_wp2_with fail
    refine CF.out.mono ?_
    rintro e w2 ⟨g, q, rfl, hsc, hb2⟩
    have HSC := Lib.hid hsc
    have HB2 := Lib.hid hb2
    have HG : Hid (w.heap.size ≤ g) := Lib.hid hsc.gbase
    clear hsc hb2 CF
    go_wp2
    go_loopw [6] (fun v6 wr => ∃ k : Nat, k ≤ n + 1 ∧ v6 = .int .i64 ((k : Int) - 1) ∧ Hid (∃ q, ScAt wr w.heap.size g (ls.take (k - 1)).reverse q) ∧ Hid (Below w.heap.size w wr)) (fun v6 _ => (intOf v6 + 1).toNat)
    case atStart => exact ⟨n + 1, Nat.le_refl _, by go_num, Lib.hid ⟨q, by rw [Nat.add_sub_cancel, ← H.out.1, List.take_length]; exact HSC.out⟩, HB2⟩
    case round =>
      obtain ⟨k, hk, rfl, HQ, HB⟩ := hrel
      cases k with
      | zero =>
        have b1 : ¬ (0 : Int) ≤ ((0 : Nat) : Int) - 1 := by omega
        have CL := Lib.hid (live34_any wr)
        go_wp2_with fail
        refine CL.out.mono ?_
        rintro e w9 ⟨rfl, hB9⟩
        have HB9 := Lib.hid (HB.out.trans (hB9.mono HB.out.size))
        clear hB9
        go_wp2
        go_ret
        exact ⟨rfl, HB9.out⟩
      | succ m =>
        have ek : ((m + 1 : Nat) : Int) - 1 = (m : Int) := by omega
        rw [ek]
        rw [Nat.add_sub_cancel] at HQ
        have b0 : (0 : Int) ≤ (m : Int) := by omega
        have hmn : m ≤ n := by omega
        have hmc : m ≤ c := by omega
        obtain ⟨q2, hq2⟩ := HQ.out
        have hT : RowsAt wr A m (ls.take m) := (H.out.below HB.out).take hmn
        have hsub : ∀ f ∈ ls.take m, f.length ≤ 1048576 := fun f hf => HFL.out f (List.mem_of_mem_take hf)
        have hsum : ((ls.take m).map List.length).sum ≤ 60 := by
          refine Nat.le_trans ?_ HS60.out
          conv => rhs; rw [← List.take_append_drop m ls, List.map_append, List.sum_append]
          omega
        have C1 := find_any w.heap.size g _ q2 x wr hq2 (fun f hf => hsub f (List.mem_reverse.1 hf))
        rw [mean_eq] at C1
        have C2 := rfind_any A m c (ls.take m) x wr hT (by omega) hsub
        obtain ⟨⟨sp, ok⟩, hsp⟩ : ∃ t, t = ansF (spR x (ls.take m).flatten) x := ⟨_, rfl⟩
        rw [← hsp] at C1 C2
        have C1 := Lib.hid C1
        have C2 := Lib.hid C2
        have HTM := Lib.hid hT
        have HQ2 := Lib.hid hq2
        have HSUM := Lib.hid hsum
        have HLEN : Hid ((ls.take m).reverse.length = m) := Lib.hid (by rw [List.length_reverse]; exact hT.1)
        clear hT hsub hsp hq2 hsum HQ
        go_wp2_with fail
        refine C1.out.mono ?_
        rintro e w3 ⟨rfl, rfl⟩
        go_wp2_with fail
        refine C2.out.mono ?_
        rintro e w3 ⟨rfl, rfl⟩
        have HBD := Lib.hid (below_drewS wr.heap.size wr)
        have HQ3 := Lib.hid (HQ2.out.below HBD.out)
        have C3 := Lib.hid (lenS_any w.heap.size g _ q2 wr.drew HQ3.out)
        rw [HLEN.out] at C3
        have C4 := allS_any w.heap.size g _ q2 wr.drew HQ3.out (by rw [List.map_reverse, List.sum_reverse]; exact Nat.le_trans HSUM.out (by decide))
        unfold AllS at C4
        rw [all_eq] at C4
        have C4 := Lib.hid C4
        have HAL : Hid ((allR (ls.take m).flatten (ls.take m).flatten).length ≤ 1048576) := Lib.hid (by
          have h1 := allR_len (ls.take m).flatten (ls.take m).flatten
          rw [List.length_flatten] at h1
          have := HSUM.out
          omega)
        have HFT : Hid ((ls.take m).flatten.length ≤ 1048576) := Lib.hid (by
          rw [List.length_flatten]
          have := HSUM.out
          omega)
        have C5 := Lib.hid (fun V (hb : Below wr.heap.size wr V) => rall_any A m c (ls.take m) V (HTM.out.below hb) (by omega) HFT.out)
        generalize hal : allR (ls.take m).flatten (ls.take m).flatten = al at *
        clear hal
        go_wp2_with fail
        refine wp_region_held_drew (S := fun _ => True) (by kernel_rfl) trivial (fun hHeld => ?_)
        generalize wr.drew = V0 at *
        --TAKES narthex/narthexlaw34.ScopeFinds:9 0..9 11
        refine wpAnyH_take (i := 0) (oi := ({ dst := some 36, op := Op.move (Operand.tmp 7), type := 9, pos := "law.go:70", after := #[], guard := none } : Oper)) (v := ?_) rfl (by kernel_rfl) (by kernel_rfl) (by kernel_rfl) (fun _ _ _ h => h) (Or.inl ⟨by rfl, ?_⟩) (by assumption) ?_
        rotate_left 1
        · intro w hSw; (try dsimp only at hSw); go_simp; try with_reducible rfl
        (try simp only [Act.put, List.setIfInBounds_toArray, List.set_cons_zero, List.set_cons_succ])
        refine wpAnyH_take (i := 1) (oi := ({ dst := some 37, op := Op.move (Operand.tmp 9), type := 9, pos := "law.go:70", after := #[], guard := none } : Oper)) (v := ?_) rfl (by kernel_rfl) (by kernel_rfl) (by kernel_rfl) (fun _ _ _ h => h) (Or.inl ⟨by rfl, ?_⟩) (by assumption) ?_
        rotate_left 1
        · intro w hSw; (try dsimp only at hSw); go_simp; try with_reducible rfl
        (try simp only [Act.put, List.setIfInBounds_toArray, List.set_cons_zero, List.set_cons_succ])
        refine wpAnyH_take (i := 2) (oi := ({ dst := some 38, op := Op.binOp BinOp.neq 9 (Operand.tmp 36) (Operand.tmp 37) 9, type := 4, pos := "law.go:70", after := #[{ on := 0, ground := Ground.data }, { on := 1, ground := Ground.data }], guard := none } : Oper)) (v := ?_) rfl (by kernel_rfl) (by kernel_rfl) (by kernel_rfl) (fun _ _ _ h => h) (Or.inl ⟨by rfl, ?_⟩) (by assumption) ?_
        rotate_left 1
        · intro w hSw; (try dsimp only at hSw); go_simp; try with_reducible rfl
        (try simp only [Act.put, List.setIfInBounds_toArray, List.set_cons_zero, List.set_cons_succ])
        refine wpAnyH_take (i := 3) (oi := ({ dst := some 39, op := Op.move (Operand.tmp 38), type := 4, pos := "law.go:70", after := #[{ on := 2, ground := Ground.data }], guard := none } : Oper)) (v := ?_) rfl (by kernel_rfl) (by kernel_rfl) (by kernel_rfl) (fun _ _ _ h => h) (Or.inl ⟨by rfl, ?_⟩) (by assumption) ?_
        rotate_left 1
        · intro w hSw; (try dsimp only at hSw); go_simp; try with_reducible rfl
        (try simp only [Act.put, List.setIfInBounds_toArray, List.set_cons_zero, List.set_cons_succ])
        refine wpAnyH_take (i := 4) (oi := ({ dst := some 40, op := Op.move (Operand.tmp 8), type := 4, pos := "law.go:70", after := #[{ on := 3, ground := Ground.guard }], guard := some (3, false) } : Oper)) (v := ?_) rfl (by kernel_rfl) (by kernel_rfl) (by kernel_rfl) (fun _ _ _ h => h) (Or.inl ⟨by rfl, ?_⟩) (by assumption) ?_
        rotate_left 1
        · intro w hSw; (try dsimp only at hSw); go_simp; try with_reducible rfl
        (try simp only [Act.put, List.setIfInBounds_toArray, List.set_cons_zero, List.set_cons_succ])
        refine wpAnyH_take (i := 5) (oi := ({ dst := some 41, op := Op.move (Operand.tmp 10), type := 4, pos := "law.go:70", after := #[{ on := 3, ground := Ground.guard }], guard := some (3, false) } : Oper)) (v := ?_) rfl (by kernel_rfl) (by kernel_rfl) (by kernel_rfl) (fun _ _ _ h => h) (Or.inl ⟨by rfl, ?_⟩) (by assumption) ?_
        rotate_left 1
        · intro w hSw; (try dsimp only at hSw); go_simp; try with_reducible rfl
        (try simp only [Act.put, List.setIfInBounds_toArray, List.set_cons_zero, List.set_cons_succ])
        refine wpAnyH_take (i := 6) (oi := ({ dst := some 42, op := Op.binOp BinOp.neq 4 (Operand.tmp 40) (Operand.tmp 41) 4, type := 4, pos := "law.go:70", after := #[{ on := 4, ground := Ground.data }, { on := 5, ground := Ground.data }, { on := 3, ground := Ground.guard }], guard := some (3, false) } : Oper)) (v := ?_) rfl (by kernel_rfl) (by kernel_rfl) (by kernel_rfl) (fun _ _ _ h => h) (Or.inl ⟨by rfl, ?_⟩) (by assumption) ?_
        rotate_left 1
        · intro w hSw; (try dsimp only at hSw); go_simp; try with_reducible rfl
        (try simp only [Act.put, List.setIfInBounds_toArray, List.set_cons_zero, List.set_cons_succ])
        refine wpAnyH_take (i := 7) (oi := ({ dst := some 43, op := Op.pick (Operand.tmp 39) (Operand.const (Value.bool true)) (Operand.tmp 42), type := 4, pos := "law.go:70", after := #[{ on := 3, ground := Ground.data }, { on := 6, ground := Ground.data }], guard := none } : Oper)) (v := ?_) rfl (by kernel_rfl) (by kernel_rfl) (by kernel_rfl) (fun _ _ _ h => h) (Or.inl ⟨by rfl, ?_⟩) (by assumption) ?_
        rotate_left 1
        · intro w hSw; (try dsimp only at hSw); go_simp; try with_reducible rfl
        (try simp only [Act.put, List.setIfInBounds_toArray, List.set_cons_zero, List.set_cons_succ])
        refine wpAnyH_take (i := 8) (oi := ({ dst := some 44, op := Op.move (Operand.tmp 43), type := 4, pos := "law.go:70", after := #[{ on := 7, ground := Ground.data }, { on := 3, ground := Ground.chain }], guard := none } : Oper)) (v := ?_) rfl (by kernel_rfl) (by kernel_rfl) (by kernel_rfl) (fun _ _ _ h => h) (Or.inl ⟨by rfl, ?_⟩) (by assumption) ?_
        rotate_left 1
        · intro w hSw; (try dsimp only at hSw); go_simp; try with_reducible rfl
        (try simp only [Act.put, List.setIfInBounds_toArray, List.set_cons_zero, List.set_cons_succ])
        refine wpAnyH_take (i := 9) (oi := ({ dst := some 45, op := Op.move (Operand.tmp 5), type := 25, pos := "law.go:70", after := #[{ on := 8, ground := Ground.guard }], guard := some (8, false) } : Oper)) (v := ?_) rfl (by kernel_rfl) (by kernel_rfl) (by kernel_rfl) (fun _ _ _ h => h) (Or.inl ⟨by rfl, ?_⟩) (by assumption) ?_
        rotate_left 1
        · intro w hSw; (try dsimp only at hSw); go_simp; try with_reducible rfl
        (try simp only [Act.put, List.setIfInBounds_toArray, List.set_cons_zero, List.set_cons_succ])
        refine wpAnyH_take (i := 11) (oi := ({ dst := some 47, op := Op.move (Operand.tmp 6), type := 3, pos := "law.go:70", after := #[{ on := 8, ground := Ground.guard }], guard := some (8, false) } : Oper)) (v := ?_) rfl (by kernel_rfl) (by kernel_rfl) (by kernel_rfl) (fun _ _ _ h => h) (Or.inl ⟨by rfl, ?_⟩) (by assumption) ?_
        rotate_left 1
        · intro w hSw; (try dsimp only at hSw); go_simp; try with_reducible rfl
        (try simp only [Act.put, List.setIfInBounds_toArray, List.set_cons_zero, List.set_cons_succ])
        --END
        refine wpAnyH_ready (rs := [10]) (by kernel_rfl) (by simp) ?_
        refine AllReadyH.cons (o := _) rfl (fun K hK => ?_) AllReadyH.nil
        go_simp
        refine C3.out.mono ?_
        rintro e w4 ⟨rfl, rfl⟩
        refine hK.out _ _ trivial (fun hHeld => ?_)
        clear hK K
        (try simp only [Act.put, List.setIfInBounds_toArray, List.set_cons_zero, List.set_cons_succ])
        --TAKES narthex/narthexlaw34.ScopeFinds:9 12..15 17..19
        refine wpAnyH_take (i := 12) (oi := ({ dst := some 48, op := Op.binOp BinOp.neq 3 (Operand.tmp 46) (Operand.tmp 47) 3, type := 4, pos := "law.go:70", after := #[{ on := 10, ground := Ground.data }, { on := 11, ground := Ground.data }, { on := 8, ground := Ground.guard }], guard := some (8, false) } : Oper)) (v := ?_) rfl (by kernel_rfl) (by kernel_rfl) (by kernel_rfl) (fun _ _ _ h => h) (Or.inl ⟨by rfl, ?_⟩) (by assumption) ?_
        rotate_left 1
        · intro w hSw; (try dsimp only at hSw); go_simp; try with_reducible rfl
        (try simp only [Act.put, List.setIfInBounds_toArray, List.set_cons_zero, List.set_cons_succ])
        refine wpAnyH_take (i := 13) (oi := ({ dst := some 49, op := Op.pick (Operand.tmp 44) (Operand.const (Value.bool true)) (Operand.tmp 48), type := 4, pos := "law.go:70", after := #[{ on := 8, ground := Ground.data }, { on := 12, ground := Ground.data }], guard := none } : Oper)) (v := ?_) rfl (by kernel_rfl) (by kernel_rfl) (by kernel_rfl) (fun _ _ _ h => h) (Or.inl ⟨by rfl, ?_⟩) (by assumption) ?_
        rotate_left 1
        · intro w hSw; (try dsimp only at hSw); go_simp; try with_reducible rfl
        (try simp only [Act.put, List.setIfInBounds_toArray, List.set_cons_zero, List.set_cons_succ])
        refine wpAnyH_take (i := 14) (oi := ({ dst := some 50, op := Op.move (Operand.tmp 49), type := 4, pos := "law.go:70", after := #[{ on := 13, ground := Ground.data }, { on := 10, ground := Ground.chain }], guard := none } : Oper)) (v := ?_) rfl (by kernel_rfl) (by kernel_rfl) (by kernel_rfl) (fun _ _ _ h => h) (Or.inl ⟨by rfl, ?_⟩) (by assumption) ?_
        rotate_left 1
        · intro w hSw; (try dsimp only at hSw); go_simp; try with_reducible rfl
        (try simp only [Act.put, List.setIfInBounds_toArray, List.set_cons_zero, List.set_cons_succ])
        refine wpAnyH_take (i := 15) (oi := ({ dst := some 51, op := Op.move (Operand.tmp 5), type := 25, pos := "law.go:70", after := #[{ on := 14, ground := Ground.guard }], guard := some (14, false) } : Oper)) (v := ?_) rfl (by kernel_rfl) (by kernel_rfl) (by kernel_rfl) (fun _ _ _ h => h) (Or.inl ⟨by rfl, ?_⟩) (by assumption) ?_
        rotate_left 1
        · intro w hSw; (try dsimp only at hSw); go_simp; try with_reducible rfl
        (try simp only [Act.put, List.setIfInBounds_toArray, List.set_cons_zero, List.set_cons_succ])
        refine wpAnyH_take (i := 17) (oi := ({ dst := some 53, op := Op.move (Operand.tmp 0), type := 22, pos := "law.go:70", after := #[{ on := 14, ground := Ground.guard }], guard := some (14, false) } : Oper)) (v := ?_) rfl (by kernel_rfl) (by kernel_rfl) (by kernel_rfl) (fun _ _ _ h => h) (Or.inl ⟨by rfl, ?_⟩) (by assumption) ?_
        rotate_left 1
        · intro w hSw; (try dsimp only at hSw); go_simp; try with_reducible rfl
        (try simp only [Act.put, List.setIfInBounds_toArray, List.set_cons_zero, List.set_cons_succ])
        refine wpAnyH_take (i := 18) (oi := ({ dst := some 54, op := Op.move (Operand.tmp 6), type := 3, pos := "law.go:70", after := #[{ on := 14, ground := Ground.guard }], guard := some (14, false) } : Oper)) (v := ?_) rfl (by kernel_rfl) (by kernel_rfl) (by kernel_rfl) (fun _ _ _ h => h) (Or.inl ⟨by rfl, ?_⟩) (by assumption) ?_
        rotate_left 1
        · intro w hSw; (try dsimp only at hSw); go_simp; try with_reducible rfl
        (try simp only [Act.put, List.setIfInBounds_toArray, List.set_cons_zero, List.set_cons_succ])
        refine wpAnyH_take (i := 19) (oi := ({ dst := some 55, op := Op.slice 22 (Operand.tmp 53) none (some (Operand.tmp 54)) none, type := 22, pos := "law.go:70", after := #[{ on := 17, ground := Ground.data }, { on := 18, ground := Ground.data }, { on := 14, ground := Ground.guard }], guard := some (14, false) } : Oper)) (v := ?_) rfl (by kernel_rfl) (by kernel_rfl) (by kernel_rfl) (fun _ _ _ h => h) (Or.inl ⟨by rfl, ?_⟩) (by assumption) ?_
        rotate_left 1
        · intro w hSw; (try dsimp only at hSw); go_simp; try with_reducible rfl
        (try simp only [Act.put, List.setIfInBounds_toArray, List.set_cons_zero, List.set_cons_succ])
        --END
        refine wpAnyH_ready (rs := [16]) (by kernel_rfl) (by simp) ?_
        refine AllReadyH.cons (o := _) rfl (fun K hK => ?_) AllReadyH.nil
        go_simp
        refine C4.out.mono ?_
        rintro e w5 ⟨R5, c5, rfl, ho5, hb5⟩
        have HB5 := Lib.hid (HBD.out.trans (hb5.mono HBD.out.size))
        have HQ5 := Lib.hid (HQ3.out.below hb5)
        have HO5 := Lib.hid ho5
        clear ho5 hb5
        refine hK.out _ _ trivial (fun hHeld => ?_)
        clear hK K
        (try simp only [Act.put, List.setIfInBounds_toArray, List.set_cons_zero, List.set_cons_succ])
        refine wpAnyH_ready (rs := [20]) (by kernel_rfl) (by simp) ?_
        refine AllReadyH.cons (o := _) rfl (fun K hK => ?_) AllReadyH.nil
        go_simp
        refine (C5.out w5 HB5.out).mono ?_
        rintro e w6 ⟨R6, c6, rfl, ho6, hb6⟩
        have HB6 := Lib.hid (HB5.out.trans (hb6.mono HB5.out.size))
        have HQ6 := Lib.hid (HQ5.out.below hb6)
        have CS := Lib.hid (same_any R5 c5 al R6 c6 w6 (BdsAt.of_own (ownS_below HO5.out hb6)) (BdsAt.of_own ho6) HAL.out)
        clear ho6 hb6
        refine hK.out _ _ trivial (fun hHeld => ?_)
        clear hK K
        (try simp only [Act.put, List.setIfInBounds_toArray, List.set_cons_zero, List.set_cons_succ])
        refine wpAnyH_ready (rs := [21]) (by kernel_rfl) (by simp) ?_
        refine AllReadyH.cons (o := _) rfl (fun K hK => ?_) AllReadyH.nil
        go_simp
        refine CS.out.mono ?_
        rintro e w7 ⟨rfl, d7, hw7⟩
        have hb7 : Below w6.heap.size w6 w7 := by rw [hw7]; exact ⟨rfl, rfl, rfl, Nat.le_refl _, fun _ _ => rfl⟩
        have HB7 := Lib.hid (HB6.out.trans (hb7.mono HB6.out.size))
        have HQ7 := Lib.hid (HQ6.out.below hb7)
        clear hw7 hb7 CS
        refine hK.out _ _ trivial (fun hHeld => ?_)
        clear hK K
        (try simp only [Act.put, List.setIfInBounds_toArray, List.set_cons_zero, List.set_cons_succ])
        --TAKES narthex/narthexlaw34.ScopeFinds:9 22..25 27 28
        refine wpAnyH_take (i := 22) (oi := ({ dst := some 58, op := Op.unOp UnOp.not 4 (Operand.tmp 57), type := 4, pos := "law.go:70", after := #[{ on := 21, ground := Ground.data }, { on := 14, ground := Ground.guard }], guard := some (14, false) } : Oper)) (v := ?_) rfl (by kernel_rfl) (by kernel_rfl) (by kernel_rfl) (fun _ _ _ h => h) (Or.inl ⟨by rfl, ?_⟩) (by assumption) ?_
        rotate_left 1
        · intro w hSw; (try dsimp only at hSw); go_simp; try with_reducible rfl
        (try simp only [Act.put, List.setIfInBounds_toArray, List.set_cons_zero, List.set_cons_succ])
        refine wpAnyH_take (i := 23) (oi := ({ dst := some 59, op := Op.pick (Operand.tmp 50) (Operand.const (Value.bool true)) (Operand.tmp 58), type := 4, pos := "law.go:70", after := #[{ on := 14, ground := Ground.data }, { on := 22, ground := Ground.data }], guard := none } : Oper)) (v := ?_) rfl (by kernel_rfl) (by kernel_rfl) (by kernel_rfl) (fun _ _ _ h => h) (Or.inl ⟨by rfl, ?_⟩) (by assumption) ?_
        rotate_left 1
        · intro w hSw; (try dsimp only at hSw); go_simp; try with_reducible rfl
        (try simp only [Act.put, List.setIfInBounds_toArray, List.set_cons_zero, List.set_cons_succ])
        refine wpAnyH_take (i := 24) (oi := ({ dst := some 60, op := Op.move (Operand.tmp 59), type := 4, pos := "law.go:70", after := #[{ on := 23, ground := Ground.data }, { on := 21, ground := Ground.chain }], guard := none } : Oper)) (v := ?_) rfl (by kernel_rfl) (by kernel_rfl) (by kernel_rfl) (fun _ _ _ h => h) (Or.inl ⟨by rfl, ?_⟩) (by assumption) ?_
        rotate_left 1
        · intro w hSw; (try dsimp only at hSw); go_simp; try with_reducible rfl
        (try simp only [Act.put, List.setIfInBounds_toArray, List.set_cons_zero, List.set_cons_succ])
        refine wpAnyH_take (i := 25) (oi := ({ dst := some 61, op := Op.move (Operand.tmp 5), type := 25, pos := "law.go:70", after := #[{ on := 24, ground := Ground.guard }], guard := some (24, false) } : Oper)) (v := ?_) rfl (by kernel_rfl) (by kernel_rfl) (by kernel_rfl) (fun _ _ _ h => h) (Or.inl ⟨by rfl, ?_⟩) (by assumption) ?_
        rotate_left 1
        · intro w hSw; (try dsimp only at hSw); go_simp; try with_reducible rfl
        (try simp only [Act.put, List.setIfInBounds_toArray, List.set_cons_zero, List.set_cons_succ])
        refine wpAnyH_take (i := 27) (oi := ({ dst := some 63, op := Op.move (Operand.tmp 6), type := 3, pos := "law.go:70", after := #[{ on := 24, ground := Ground.guard }], guard := some (24, false) } : Oper)) (v := ?_) rfl (by kernel_rfl) (by kernel_rfl) (by kernel_rfl) (fun _ _ _ h => h) (Or.inl ⟨by rfl, ?_⟩) (by assumption) ?_
        rotate_left 1
        · intro w hSw; (try dsimp only at hSw); go_simp; try with_reducible rfl
        (try simp only [Act.put, List.setIfInBounds_toArray, List.set_cons_zero, List.set_cons_succ])
        refine wpAnyH_take (i := 28) (oi := ({ dst := some 64, op := Op.binOp BinOp.gtr 3 (Operand.tmp 63) (Operand.const (Value.int IntKind.i64 0)) 3, type := 4, pos := "law.go:70", after := #[{ on := 27, ground := Ground.data }, { on := 24, ground := Ground.guard }], guard := some (24, false) } : Oper)) (v := ?_) rfl (by kernel_rfl) (by kernel_rfl) (by kernel_rfl) (fun _ _ _ h => h) (Or.inl ⟨by rfl, ?_⟩) (by assumption) ?_
        rotate_left 1
        · intro w hSw; (try dsimp only at hSw); go_simp; try with_reducible rfl
        (try simp only [Act.put, List.setIfInBounds_toArray, List.set_cons_zero, List.set_cons_succ])
        --END
        have HBW7 := Lib.hid (HB.out.trans (HB7.out.mono HB.out.size))
        by_cases hm0 : m = 0
        · subst hm0
          have CP := Lib.hid (popS_none w.heap.size g w7 q2 HQ7.out)
          have HB9 := HBW7
          have HQ9 : Hid (∃ q, ScAt w7 w.heap.size g (ls.take (0 - 1)).reverse q) := Lib.hid ⟨q2, HQ7.out⟩
          refine wpAnyH_ready (rs := [26]) (by kernel_rfl) (by simp) ?_
          refine AllReadyH.cons (o := _) rfl (fun K hK => ?_) AllReadyH.nil
          go_simp
          refine CP.out.mono ?_
          rintro e w8 ⟨rfl, rfl⟩
          refine hK.out _ _ trivial (fun hHeld => ?_)
          clear hK K
          (try simp only [Act.put, List.setIfInBounds_toArray, List.set_cons_zero, List.set_cons_succ])
          --TAKES narthex/narthexlaw34.ScopeFinds:9 29 30
          refine wpAnyH_take (i := 29) (oi := ({ dst := some 65, op := Op.binOp BinOp.neq 4 (Operand.tmp 62) (Operand.tmp 64) 4, type := 4, pos := "law.go:70", after := #[{ on := 26, ground := Ground.data }, { on := 28, ground := Ground.data }, { on := 24, ground := Ground.guard }], guard := some (24, false) } : Oper)) (v := ?_) rfl (by kernel_rfl) (by kernel_rfl) (by kernel_rfl) (fun _ _ _ h => h) (Or.inl ⟨by rfl, ?_⟩) (by assumption) ?_
          rotate_left 1
          · intro w hSw; (try dsimp only at hSw); go_simp; try with_reducible rfl
          (try simp only [Act.put, List.setIfInBounds_toArray, List.set_cons_zero, List.set_cons_succ])
          refine wpAnyH_take (i := 30) (oi := ({ dst := some 66, op := Op.pick (Operand.tmp 60) (Operand.const (Value.bool true)) (Operand.tmp 65), type := 4, pos := "law.go:70", after := #[{ on := 24, ground := Ground.data }, { on := 29, ground := Ground.data }], guard := none } : Oper)) (v := ?_) rfl (by kernel_rfl) (by kernel_rfl) (by kernel_rfl) (fun _ _ _ h => h) (Or.inl ⟨by rfl, ?_⟩) (by assumption) ?_
          rotate_left 1
          · intro w hSw; (try dsimp only at hSw); go_simp; try with_reducible rfl
          (try simp only [Act.put, List.setIfInBounds_toArray, List.set_cons_zero, List.set_cons_succ])
          --END
          refine wpAnyH_done (by kernel_rfl) ?_ _
          clear hHeld
          go_wp2
          go_roundw
          case rel => exact ⟨0, by omega, by go_num, HQ9, HB9⟩
          case measure => simp [intOf]
        · have hmp : (0 : Int) < (m : Int) := by omega
          have hmp2 : 0 < m := by omega
          obtain ⟨f, fs, hff, hfs⟩ : ∃ f fs, (ls.take m).reverse = f :: fs ∧ (ls.take (m - 1)).reverse = fs := cutHead hm0 (by rw [H.out.1]; exact hmn)
          have hq7 := HQ7.out
          rw [hff] at hq7
          have hfl : fs.length ≤ 1048576 := by have h1 := HLEN.out; rw [hff] at h1; simp at h1; omega
          have CP := Lib.hid (popS_any w.heap.size g f fs q2 w7 hq7 hfl)
          have HFS := Lib.hid hfs
          clear hq7 hff hfs
          refine wpAnyH_ready (rs := [26]) (by kernel_rfl) (by simp) ?_
          refine AllReadyH.cons (o := _) rfl (fun K hK => ?_) AllReadyH.nil
          go_simp
          refine CP.out.mono ?_
          rintro e w8 ⟨rfl, hq8, hk8⟩
          have HQ9 : Hid (∃ q, ScAt w8 w.heap.size g (ls.take (m - 1)).reverse q) := Lib.hid (by rw [HFS.out]; exact hq8)
          have HB9 := Lib.hid (HBW7.out.trans (hk8.below HBW7.out.size HG.out))
          clear hq8 hk8
          refine hK.out _ _ trivial (fun hHeld => ?_)
          clear hK K
          (try simp only [Act.put, List.setIfInBounds_toArray, List.set_cons_zero, List.set_cons_succ])
          --TAKES narthex/narthexlaw34.ScopeFinds:9 29 30
          refine wpAnyH_take (i := 29) (oi := ({ dst := some 65, op := Op.binOp BinOp.neq 4 (Operand.tmp 62) (Operand.tmp 64) 4, type := 4, pos := "law.go:70", after := #[{ on := 26, ground := Ground.data }, { on := 28, ground := Ground.data }, { on := 24, ground := Ground.guard }], guard := some (24, false) } : Oper)) (v := ?_) rfl (by kernel_rfl) (by kernel_rfl) (by kernel_rfl) (fun _ _ _ h => h) (Or.inl ⟨by rfl, ?_⟩) (by assumption) ?_
          rotate_left 1
          · intro w hSw; (try dsimp only at hSw); go_simp; try with_reducible rfl
          (try simp only [Act.put, List.setIfInBounds_toArray, List.set_cons_zero, List.set_cons_succ])
          refine wpAnyH_take (i := 30) (oi := ({ dst := some 66, op := Op.pick (Operand.tmp 60) (Operand.const (Value.bool true)) (Operand.tmp 65), type := 4, pos := "law.go:70", after := #[{ on := 24, ground := Ground.data }, { on := 29, ground := Ground.data }], guard := none } : Oper)) (v := ?_) rfl (by kernel_rfl) (by kernel_rfl) (by kernel_rfl) (fun _ _ _ h => h) (Or.inl ⟨by rfl, ?_⟩) (by assumption) ?_
          rotate_left 1
          · intro w hSw; (try dsimp only at hSw); go_simp; try with_reducible rfl
          (try simp only [Act.put, List.setIfInBounds_toArray, List.set_cons_zero, List.set_cons_succ])
          --END
          refine wpAnyH_done (by kernel_rfl) ?_ _
          clear hHeld
          go_wp2
          go_roundw
          case rel => exact ⟨m, by omega, by go_num, HQ9, HB9⟩
          case measure => simp [intOf]
end Go.Proofs.Ytbamcpnmabpacaa
