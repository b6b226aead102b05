/- The walk of UtfWrites. Conditions: the table of forms holds what the text gives it. -/
import Derived.Test.YtflljhlbnaeebaaDoorUtfLive
import Derived.Deep.RegionHeld3
namespace Go.Proofs.YtflljhlbnaeebaaDoor
open Go.RowKit Go.Proofs.YtflljhlbnaeebaaDoor.UtfPlain
theorem below2_drew (B : Nat) (w : World) : Below B w w.drew := (Below.refl B w).trans ⟨rfl, rfl, rfl, Nat.le_refl _, fun _ _ => rfl⟩
theorem own_cap2 {w : World} {base size n m c : Nat} {e : TypeId} {A : Option Addr} {xs : List Value} (h : w.ownsRow base e size (.slice A m c) n xs) : n ≤ c ∧ c ≤ 9223372036854775807 ∧ m = n := by
  rcases h.2 with ⟨h1, h2⟩ | ⟨g, cap, cur, h1, _, _, h3, h4, _⟩
  · cases h1; omega
  · cases h1; unfold maxLen at h4; omega
/-- One may ask more of the worlds on the way: a stronger condition serves. -/
theorem wpAnyH_more {P : Program} {md : Region.Mode} {ops : Array Oper} {Q : Exit → Act → World → Prop} {S S' : World → Prop} (hS : ∀ w, S' w → S w) :
    ∀ (fuel : Nat) (listed : Array Bool) (a : Act) (w : World), wpAnyH P md ops Q S' fuel listed a w → wpAnyH P md ops Q S fuel listed a w
  | 0, _, _, _, h => h
  | fuel + 1, _, _, _, h => ⟨h.1, fun i hi => wpOp_mono (fun a' w' h' => ⟨hS w' h'.1, wpAnyH_more hS fuel _ a' w' h'.2⟩) (h.2 i hi)⟩
set_option maxRecDepth 100000 in
set_option maxHeartbeats 2000000 in
theorem writes_any (r : Int) (w : World) (hf : FormsAt w) : Calls Tryd.prog 3 #[.int .i64 r] w (TellLive w) := by
  have F := Lib.hid hf
  cases hR : isR r with
  | false =>
    have R := Lib.hid hR
    clear hR
    go_enter Tryd.func3, Tryd.ntmps3
    go_wp2_with fail
    refine (encode_any r _ F.out).mono ?_
    rintro e w1 ⟨A, c, rfl, hrow, hB1⟩
    clear hrow
    rw [R.out]
    simp only [if_neg Bool.false_ne_true]
    go_wp2_with fail
    refine (is_any _ _).mono ?_; rintro e w' ⟨rfl, rfl⟩
    rw [R.out]
    go_wp2_with fail
    refine (ris2_any _ _).mono ?_; rintro e w' ⟨rfl, rfl⟩
    rw [R.out]
    go_wp2_with fail
    refine (ris2_any _ _).mono ?_; rintro e w' ⟨rfl, rfl⟩
    rw [R.out]
    go_wp2_with fail
    refine (live2_any _ (F.out.below hB1 F.out.size)).mono ?_
    rintro e w' ⟨rfl, hB2⟩
    go_wp2
    go_ret
    exact ⟨rfl, hB1.trans (hB2.mono hB1.size)⟩
  | true =>
    have R := Lib.hid hR
    have C := charAt_app [] [] r hR
    rw [List.nil_append, List.append_nil] at C
    have HC := Lib.hid C
    have hs := sizeR_b r
    have hel := encL_length r
    have heb := encL_b r hR
    clear C hR
    generalize hS : sizeR r = n at *
    have S := Lib.hid hS
    clear hS
    have n0 : ¬ n = 0 := by omega
    go_enter Tryd.func3, Tryd.ntmps3
    go_wp2_with fail
    refine (encode_any r _ F.out).mono ?_
    rintro e w1 ⟨A, c, rfl, hrow, hB1⟩
    rw [R.out]
    simp only [if_true]
    have hrow' := hrow R.out
    rw [S.out] at hrow' ⊢
    clear hrow
    have hb : BytesAt w1 A n (encL r) := by have := BytesAt.of_own (xs := encL r) (by rw [hel]; exact hrow') heb; rwa [hel] at this
    obtain ⟨hc1, hc2, _⟩ := own_cap2 hrow'
    clear hrow'
    go_wp2_with fail
    refine (is_any _ _).mono ?_; rintro e w' ⟨rfl, rfl⟩
    rw [R.out]
    go_wp2_with fail
    refine (ris2_any _ _).mono ?_; rintro e w' ⟨rfl, rfl⟩
    rw [R.out]
    go_wp2_with fail
    refine (ris2_any _ _).mono ?_; rintro e w' ⟨rfl, rfl⟩
    rw [R.out]
    go_wp2_with fail
    refine (decode_any A n c 0 (encL r) _ (by omega) hc1 hc2 hb (F.out.below hB1 F.out.size) (by omega)).mono ?_
    rintro e w' ⟨rfl, d, rfl⟩
    have C' : charAt (encL r) 0 = (r, n) := HC.out
    rw [C']
    simp only [if_neg n0]
    clear C'
    go_wp2_with fail
    have hB2 : Below w.heap.size w (w1.drewN d) := hB1.trans (below2_drewN _ _ d)
    have hb2 := hb.drewN d
    generalize w1.drewN d = W at *
    clear hb hB1
    have q0 := convB W A n c _ hb2
    have q1 := convB W.drew A n c _ hb2
    have HL := Lib.hid hel
    have HB := Lib.hid heb
    clear hel heb q0
    clear hf HC hs S n0 hc1 hc2
    refine wp_region_held_drew (S := fun w' => (convert 22 9 (.slice A n c)).run Tryd.prog w' = .ok (.string (strOfNums (encL r))) w') (by kernel_rfl) q1 (fun hHeld => ?_)
    refine wpAnyH_take (i := 0) (oi := ({ dst := some 37, op := Op.move (Operand.tmp 4), type := 23, pos := "law.go:27", after := #[], guard := none } : Oper)) (v := ?_) rfl (by kernel_rfl) (by kernel_rfl) (by kernel_rfl) (fun _ _ _ h => h) (Or.inl ⟨by rfl, ?_⟩) (by assumption) ?_
    rotate_left 1
    · intro w hSw; (try dsimp only at hSw); go_simp; try with_reducible rfl
    (try simp only [Act.put, List.setIfInBounds_toArray, List.set_cons_zero, List.set_cons_succ])
    refine wpAnyH_take (i := 1) (oi := ({ dst := some 38, op := Op.binOp BinOp.eql 3 (Operand.tmp 37) (Operand.const (Value.int IntKind.i64 0)) 3, type := 4, pos := "law.go:27", after := #[{ on := 0, ground := Ground.data }], guard := none } : Oper)) (v := ?_) rfl (by kernel_rfl) (by kernel_rfl) (by kernel_rfl) (fun _ _ _ h => h) (Or.inl ⟨by rfl, ?_⟩) (by assumption) ?_
    rotate_left 1
    · intro w hSw; (try dsimp only at hSw); go_simp; try with_reducible rfl
    (try simp only [Act.put, List.setIfInBounds_toArray, List.set_cons_zero, List.set_cons_succ])
    refine wpAnyH_take (i := 2) (oi := ({ dst := some 39, op := Op.move (Operand.tmp 38), type := 4, pos := "law.go:27", after := #[{ on := 1, ground := Ground.data }], guard := none } : Oper)) (v := ?_) rfl (by kernel_rfl) (by kernel_rfl) (by kernel_rfl) (fun _ _ _ h => h) (Or.inl ⟨by rfl, ?_⟩) (by assumption) ?_
    rotate_left 1
    · intro w hSw; (try dsimp only at hSw); go_simp; try with_reducible rfl
    (try simp only [Act.put, List.setIfInBounds_toArray, List.set_cons_zero, List.set_cons_succ])
    refine wpAnyH_take (i := 3) (oi := ({ dst := some 40, op := Op.move (Operand.tmp 3), type := 22, pos := "law.go:27", after := #[{ on := 2, ground := Ground.guard }], guard := some (2, true) } : Oper)) (v := ?_) rfl (by kernel_rfl) (by kernel_rfl) (by kernel_rfl) (fun _ _ _ h => h) (Or.inl ⟨by rfl, ?_⟩) (by assumption) ?_
    rotate_left 1
    · intro w hSw; (try dsimp only at hSw); go_simp; try with_reducible rfl
    (try simp only [Act.put, List.setIfInBounds_toArray, List.set_cons_zero, List.set_cons_succ])
    refine wpAnyH_take (i := 4) (oi := ({ dst := some 41, op := Op.convert 22 9 (Operand.tmp 40), type := 9, pos := "law.go:27", after := #[{ on := 3, ground := Ground.data }, { on := 2, ground := Ground.guard }], guard := some (2, true) } : Oper)) (v := ?_) rfl (by kernel_rfl) (by kernel_rfl) (by kernel_rfl) (fun _ _ _ h => h) (Or.inl ⟨by rfl, ?_⟩) (by assumption) ?_
    rotate_left 1
    · intro w hSw; (try dsimp only at hSw); go_simp; try with_reducible rfl
    (try simp only [Act.put, List.setIfInBounds_toArray, List.set_cons_zero, List.set_cons_succ])
    refine wpAnyH_take (i := 5) (oi := ({ dst := some 42, op := Op.move (Operand.tmp 0), type := 3, pos := "law.go:27", after := #[{ on := 2, ground := Ground.guard }], guard := some (2, true) } : Oper)) (v := ?_) rfl (by kernel_rfl) (by kernel_rfl) (by kernel_rfl) (fun _ _ _ h => h) (Or.inl ⟨by rfl, ?_⟩) (by assumption) ?_
    rotate_left 1
    · intro w hSw; (try dsimp only at hSw); go_simp; try with_reducible rfl
    (try simp only [Act.put, List.setIfInBounds_toArray, List.set_cons_zero, List.set_cons_succ])
    refine wpAnyH_ready (rs := [6]) (by kernel_rfl) (by simp) ?_
    refine AllReadyH.cons (o := _) rfl (fun K hK => ?_) AllReadyH.nil
    go_simp
    refine (rbytes_any r _ R.out).mono ?_
    rintro e w2 ⟨A2, c2, rfl, hrow2, hB3⟩
    have hb3 := BytesAt.of_own hrow2 HB.out
    have hB3' := (below2_drew W.heap.size W).trans hB3
    have q2 := convB w2 A2 _ c2 _ hb3
    have hb4 := hb2.below hB3'
    have q3 := convB w2 A n c _ hb4
    rw [HL.out] at q2 hb3 ⊢
    have hB4 : Below w.heap.size w w2 := hB2.trans (hB3'.mono hB2.size)
    have HF := F.out.below hB4 F.out.size
    clear hrow2 hB3 hB3' hHeld
    refine hK.out _ _ q3 (fun hHeld => ?_)
    clear hK K
    (try simp only [Act.put, List.setIfInBounds_toArray, List.set_cons_zero, List.set_cons_succ])
    refine wpAnyH_more (S' := fun w' => (convert 22 9 (.slice A n c)).run Tryd.prog w' = .ok (.string (strOfNums (encL r))) w' ∧ (convert 22 9 (.slice A2 n c2)).run Tryd.prog w' = .ok (.string (strOfNums (encL r))) w') (fun _ h => h.1) _ _ _ _ ?_
    clear hHeld
    have hHeld2 := And.intro q3 q2
    refine wpAnyH_take (i := 7) (oi := ({ dst := some 44, op := Op.convert 22 9 (Operand.tmp 43), type := 9, pos := "law.go:27", after := #[{ on := 6, ground := Ground.data }, { on := 2, ground := Ground.guard }], guard := some (2, true) } : Oper)) (v := ?_) rfl (by kernel_rfl) (by kernel_rfl) (by kernel_rfl) (fun _ _ _ h => h) (Or.inl ⟨by rfl, ?_⟩) (by assumption) ?_
    rotate_left 1
    · intro w hSw; (try dsimp only at hSw); go_simp; try with_reducible rfl
    (try simp only [Act.put, List.setIfInBounds_toArray, List.set_cons_zero, List.set_cons_succ])
    refine wpAnyH_take (i := 8) (oi := ({ dst := some 45, op := Op.binOp BinOp.eql 9 (Operand.tmp 41) (Operand.tmp 44) 9, type := 4, pos := "law.go:27", after := #[{ on := 4, ground := Ground.data }, { on := 7, ground := Ground.data }, { on := 2, ground := Ground.guard }], guard := some (2, true) } : Oper)) (v := ?_) rfl (by kernel_rfl) (by kernel_rfl) (by kernel_rfl) (fun _ _ _ h => h) (Or.inl ⟨by rfl, ?_⟩) (by assumption) ?_
    rotate_left 1
    · intro w hSw; (try dsimp only at hSw); go_simp; try with_reducible rfl
    (try simp only [Act.put, List.setIfInBounds_toArray, List.set_cons_zero, List.set_cons_succ])
    refine wpAnyH_take (i := 9) (oi := ({ dst := some 46, op := Op.pick (Operand.tmp 39) (Operand.tmp 45) (Operand.const (Value.bool false)), type := 4, pos := "law.go:27", after := #[{ on := 2, ground := Ground.data }, { on := 8, ground := Ground.data }], guard := none } : Oper)) (v := ?_) rfl (by kernel_rfl) (by kernel_rfl) (by kernel_rfl) (fun _ _ _ h => h) (Or.inl ⟨by rfl, ?_⟩) (by assumption) ?_
    rotate_left 1
    · intro w hSw; (try dsimp only at hSw); go_simp; try with_reducible rfl
    (try simp only [Act.put, List.setIfInBounds_toArray, List.set_cons_zero, List.set_cons_succ])
    refine wpAnyH_take (i := 10) (oi := ({ dst := some 47, op := Op.move (Operand.tmp 46), type := 4, pos := "law.go:27", after := #[{ on := 9, ground := Ground.data }, { on := 6, ground := Ground.chain }], guard := none } : Oper)) (v := ?_) rfl (by kernel_rfl) (by kernel_rfl) (by kernel_rfl) (fun _ _ _ h => h) (Or.inl ⟨by rfl, ?_⟩) (by assumption) ?_
    rotate_left 1
    · intro w hSw; (try dsimp only at hSw); go_simp; try with_reducible rfl
    (try simp only [Act.put, List.setIfInBounds_toArray, List.set_cons_zero, List.set_cons_succ])
    refine wpAnyH_take (i := 11) (oi := ({ dst := some 48, op := Op.move (Operand.tmp 5), type := 3, pos := "law.go:27", after := #[{ on := 10, ground := Ground.guard }], guard := some (10, true) } : Oper)) (v := ?_) rfl (by kernel_rfl) (by kernel_rfl) (by kernel_rfl) (fun _ _ _ h => h) (Or.inl ⟨by rfl, ?_⟩) (by assumption) ?_
    rotate_left 1
    · intro w hSw; (try dsimp only at hSw); go_simp; try with_reducible rfl
    (try simp only [Act.put, List.setIfInBounds_toArray, List.set_cons_zero, List.set_cons_succ])
    refine wpAnyH_take (i := 12) (oi := ({ dst := some 49, op := Op.move (Operand.tmp 0), type := 3, pos := "law.go:27", after := #[{ on := 10, ground := Ground.guard }], guard := some (10, true) } : Oper)) (v := ?_) rfl (by kernel_rfl) (by kernel_rfl) (by kernel_rfl) (fun _ _ _ h => h) (Or.inl ⟨by rfl, ?_⟩) (by assumption) ?_
    rotate_left 1
    · intro w hSw; (try dsimp only at hSw); go_simp; try with_reducible rfl
    (try simp only [Act.put, List.setIfInBounds_toArray, List.set_cons_zero, List.set_cons_succ])
    refine wpAnyH_take (i := 13) (oi := ({ dst := some 50, op := Op.binOp BinOp.eql 3 (Operand.tmp 48) (Operand.tmp 49) 3, type := 4, pos := "law.go:27", after := #[{ on := 11, ground := Ground.data }, { on := 12, ground := Ground.data }, { on := 10, ground := Ground.guard }], guard := some (10, true) } : Oper)) (v := ?_) rfl (by kernel_rfl) (by kernel_rfl) (by kernel_rfl) (fun _ _ _ h => h) (Or.inl ⟨by rfl, ?_⟩) (by assumption) ?_
    rotate_left 1
    · intro w hSw; (try dsimp only at hSw); go_simp; try with_reducible rfl
    (try simp only [Act.put, List.setIfInBounds_toArray, List.set_cons_zero, List.set_cons_succ])
    refine wpAnyH_take (i := 14) (oi := ({ dst := some 51, op := Op.pick (Operand.tmp 47) (Operand.tmp 50) (Operand.const (Value.bool false)), type := 4, pos := "law.go:27", after := #[{ on := 10, ground := Ground.data }, { on := 13, ground := Ground.data }], guard := none } : Oper)) (v := ?_) rfl (by kernel_rfl) (by kernel_rfl) (by kernel_rfl) (fun _ _ _ h => h) (Or.inl ⟨by rfl, ?_⟩) (by assumption) ?_
    rotate_left 1
    · intro w hSw; (try dsimp only at hSw); go_simp; try with_reducible rfl
    (try simp only [Act.put, List.setIfInBounds_toArray, List.set_cons_zero, List.set_cons_succ])
    refine wpAnyH_take (i := 15) (oi := ({ dst := some 52, op := Op.move (Operand.tmp 51), type := 4, pos := "law.go:27", after := #[{ on := 14, ground := Ground.data }, { on := 10, ground := Ground.chain }], guard := none } : Oper)) (v := ?_) rfl (by kernel_rfl) (by kernel_rfl) (by kernel_rfl) (fun _ _ _ h => h) (Or.inl ⟨by rfl, ?_⟩) (by assumption) ?_
    rotate_left 1
    · intro w hSw; (try dsimp only at hSw); go_simp; try with_reducible rfl
    (try simp only [Act.put, List.setIfInBounds_toArray, List.set_cons_zero, List.set_cons_succ])
    refine wpAnyH_take (i := 16) (oi := ({ dst := some 53, op := Op.move (Operand.tmp 6), type := 3, pos := "law.go:27", after := #[{ on := 15, ground := Ground.guard }], guard := some (15, true) } : Oper)) (v := ?_) rfl (by kernel_rfl) (by kernel_rfl) (by kernel_rfl) (fun _ _ _ h => h) (Or.inl ⟨by rfl, ?_⟩) (by assumption) ?_
    rotate_left 1
    · intro w hSw; (try dsimp only at hSw); go_simp; try with_reducible rfl
    (try simp only [Act.put, List.setIfInBounds_toArray, List.set_cons_zero, List.set_cons_succ])
    refine wpAnyH_take (i := 17) (oi := ({ dst := some 54, op := Op.move (Operand.tmp 3), type := 22, pos := "law.go:27", after := #[{ on := 15, ground := Ground.guard }], guard := some (15, true) } : Oper)) (v := ?_) rfl (by kernel_rfl) (by kernel_rfl) (by kernel_rfl) (fun _ _ _ h => h) (Or.inl ⟨by rfl, ?_⟩) (by assumption) ?_
    rotate_left 1
    · intro w hSw; (try dsimp only at hSw); go_simp; try with_reducible rfl
    (try simp only [Act.put, List.setIfInBounds_toArray, List.set_cons_zero, List.set_cons_succ])
    refine wpAnyH_take (i := 18) (oi := ({ dst := some 55, op := Op.call { callee := Callee.builtin Builtin.len, args := #[Operand.tmp 54], argTypes := #[22] }, type := 3, pos := "law.go:27", after := #[{ on := 17, ground := Ground.data }, { on := 15, ground := Ground.guard }], guard := some (15, true) } : Oper)) (v := ?_) rfl (by kernel_rfl) (by kernel_rfl) (by kernel_rfl) (fun _ _ _ h => h) (Or.inl ⟨by rfl, ?_⟩) (by assumption) ?_
    rotate_left 1
    · intro w hSw; (try dsimp only at hSw); go_simp; try with_reducible rfl
    (try simp only [Act.put, List.setIfInBounds_toArray, List.set_cons_zero, List.set_cons_succ])
    refine wpAnyH_take (i := 19) (oi := ({ dst := some 56, op := Op.binOp BinOp.eql 3 (Operand.tmp 53) (Operand.tmp 55) 3, type := 4, pos := "law.go:27", after := #[{ on := 16, ground := Ground.data }, { on := 18, ground := Ground.data }, { on := 15, ground := Ground.guard }], guard := some (15, true) } : Oper)) (v := ?_) rfl (by kernel_rfl) (by kernel_rfl) (by kernel_rfl) (fun _ _ _ h => h) (Or.inl ⟨by rfl, ?_⟩) (by assumption) ?_
    rotate_left 1
    · intro w hSw; (try dsimp only at hSw); go_simp; try with_reducible rfl
    (try simp only [Act.put, List.setIfInBounds_toArray, List.set_cons_zero, List.set_cons_succ])
    refine wpAnyH_take (i := 20) (oi := ({ dst := some 57, op := Op.pick (Operand.tmp 52) (Operand.tmp 56) (Operand.const (Value.bool false)), type := 4, pos := "law.go:27", after := #[{ on := 15, ground := Ground.data }, { on := 19, ground := Ground.data }], guard := none } : Oper)) (v := ?_) rfl (by kernel_rfl) (by kernel_rfl) (by kernel_rfl) (fun _ _ _ h => h) (Or.inl ⟨by rfl, ?_⟩) (by assumption) ?_
    rotate_left 1
    · intro w hSw; (try dsimp only at hSw); go_simp; try with_reducible rfl
    (try simp only [Act.put, List.setIfInBounds_toArray, List.set_cons_zero, List.set_cons_succ])
    refine wpAnyH_take (i := 21) (oi := ({ dst := some 58, op := Op.move (Operand.tmp 57), type := 4, pos := "law.go:27", after := #[{ on := 20, ground := Ground.data }, { on := 15, ground := Ground.chain }], guard := none } : Oper)) (v := ?_) rfl (by kernel_rfl) (by kernel_rfl) (by kernel_rfl) (fun _ _ _ h => h) (Or.inl ⟨by rfl, ?_⟩) (by assumption) ?_
    rotate_left 1
    · intro w hSw; (try dsimp only at hSw); go_simp; try with_reducible rfl
    (try simp only [Act.put, List.setIfInBounds_toArray, List.set_cons_zero, List.set_cons_succ])
    refine wpAnyH_take (i := 22) (oi := ({ dst := some 59, op := Op.move (Operand.tmp 7), type := 23, pos := "law.go:27", after := #[{ on := 21, ground := Ground.guard }], guard := some (21, true) } : Oper)) (v := ?_) rfl (by kernel_rfl) (by kernel_rfl) (by kernel_rfl) (fun _ _ _ h => h) (Or.inl ⟨by rfl, ?_⟩) (by assumption) ?_
    rotate_left 1
    · intro w hSw; (try dsimp only at hSw); go_simp; try with_reducible rfl
    (try simp only [Act.put, List.setIfInBounds_toArray, List.set_cons_zero, List.set_cons_succ])
    refine wpAnyH_take (i := 23) (oi := ({ dst := some 60, op := Op.binOp BinOp.eql 3 (Operand.tmp 59) (Operand.const (Value.int IntKind.i64 0)) 3, type := 4, pos := "law.go:27", after := #[{ on := 22, ground := Ground.data }, { on := 21, ground := Ground.guard }], guard := some (21, true) } : Oper)) (v := ?_) rfl (by kernel_rfl) (by kernel_rfl) (by kernel_rfl) (fun _ _ _ h => h) (Or.inl ⟨by rfl, ?_⟩) (by assumption) ?_
    rotate_left 1
    · intro w hSw; (try dsimp only at hSw); go_simp; try with_reducible rfl
    (try simp only [Act.put, List.setIfInBounds_toArray, List.set_cons_zero, List.set_cons_succ])
    refine wpAnyH_take (i := 24) (oi := ({ dst := some 61, op := Op.pick (Operand.tmp 58) (Operand.tmp 60) (Operand.const (Value.bool false)), type := 4, pos := "law.go:27", after := #[{ on := 21, ground := Ground.data }, { on := 23, ground := Ground.data }], guard := none } : Oper)) (v := ?_) rfl (by kernel_rfl) (by kernel_rfl) (by kernel_rfl) (fun _ _ _ h => h) (Or.inl ⟨by rfl, ?_⟩) (by assumption) ?_
    rotate_left 1
    · intro w hSw; (try dsimp only at hSw); go_simp; try with_reducible rfl
    (try simp only [Act.put, List.setIfInBounds_toArray, List.set_cons_zero, List.set_cons_succ])
    refine wpAnyH_take (i := 25) (oi := ({ dst := some 62, op := Op.move (Operand.tmp 61), type := 4, pos := "law.go:27", after := #[{ on := 24, ground := Ground.data }, { on := 21, ground := Ground.chain }], guard := none } : Oper)) (v := ?_) rfl (by kernel_rfl) (by kernel_rfl) (by kernel_rfl) (fun _ _ _ h => h) (Or.inl ⟨by rfl, ?_⟩) (by assumption) ?_
    rotate_left 1
    · intro w hSw; (try dsimp only at hSw); go_simp; try with_reducible rfl
    (try simp only [Act.put, List.setIfInBounds_toArray, List.set_cons_zero, List.set_cons_succ])
    refine wpAnyH_ready (rs := [26]) (by kernel_rfl) (by simp) ?_
    refine AllReadyH.cons (o := _) rfl (fun K hK => ?_) AllReadyH.nil
    go_simp
    refine (live2_any _ HF).mono ?_
    rintro e w3 ⟨rfl, hB5⟩
    refine hK.out _ _ ⟨convB w3 A n c _ (hb4.below hB5), convB w3 A2 _ c2 _ (hb3.below hB5)⟩ (fun hHeld => ?_)
    clear hK K hHeld2
    (try simp only [Act.put, List.setIfInBounds_toArray, List.set_cons_zero, List.set_cons_succ])
    refine wpAnyH_take (i := 27) (oi := ({ dst := some 64, op := Op.pick (Operand.tmp 62) (Operand.tmp 63) (Operand.const (Value.bool false)), type := 4, pos := "law.go:27", after := #[{ on := 25, ground := Ground.data }, { on := 26, ground := Ground.data }], guard := none } : Oper)) (v := ?_) rfl (by kernel_rfl) (by kernel_rfl) (by kernel_rfl) (fun _ _ _ h => h) (Or.inl ⟨by rfl, ?_⟩) (by assumption) ?_
    rotate_left 1
    · intro w hSw; (try dsimp only at hSw); go_simp; try with_reducible rfl
    (try simp only [Act.put, List.setIfInBounds_toArray, List.set_cons_zero, List.set_cons_succ])
    refine wpAnyH_take (i := 28) (oi := ({ dst := some 2, op := Op.assign (Operand.tmp 64), type := 4, pos := "law.go:27", after := #[{ on := 27, ground := Ground.data }, { on := 26, ground := Ground.chain }, { on := 0, ground := Ground.phase }, { on := 1, ground := Ground.phase }, { on := 2, ground := Ground.phase }, { on := 3, ground := Ground.phase }, { on := 4, ground := Ground.phase }, { on := 5, ground := Ground.phase }, { on := 6, ground := Ground.phase }, { on := 7, ground := Ground.phase }, { on := 8, ground := Ground.phase }, { on := 9, ground := Ground.phase }, { on := 10, ground := Ground.phase }, { on := 11, ground := Ground.phase }, { on := 12, ground := Ground.phase }, { on := 13, ground := Ground.phase }, { on := 14, ground := Ground.phase }, { on := 15, ground := Ground.phase }, { on := 16, ground := Ground.phase }, { on := 17, ground := Ground.phase }, { on := 18, ground := Ground.phase }, { on := 19, ground := Ground.phase }, { on := 20, ground := Ground.phase }, { on := 21, ground := Ground.phase }, { on := 22, ground := Ground.phase }, { on := 23, ground := Ground.phase }, { on := 24, ground := Ground.phase }, { on := 25, ground := Ground.phase }, { on := 26, ground := Ground.phase }, { on := 27, ground := Ground.phase }], guard := none } : Oper)) (v := ?_) rfl (by kernel_rfl) (by kernel_rfl) (by kernel_rfl) (fun _ _ _ h => h) (Or.inl ⟨by rfl, ?_⟩) (by assumption) ?_
    rotate_left 1
    · intro w hSw; (try dsimp only at hSw); go_simp; try with_reducible rfl
    (try simp only [Act.put, List.setIfInBounds_toArray, List.set_cons_zero, List.set_cons_succ])
    refine wpAnyH_done (by kernel_rfl) ?_ _
    go_wp2
    go_ret
    exact ⟨rfl, hB4.trans (hB5.mono hB4.size)⟩
end Go.Proofs.YtflljhlbnaeebaaDoor
