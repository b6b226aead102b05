/- The contract of utf.Encode. Condition: the table of forms holds what the text gives it. -/
import Derived.Test.YtflljhlbnaeebaaDoorUtfURunes
import Derived.LoopN
namespace Go.Proofs.YtflljhlbnaeebaaDoor
open Go.RowKit Go.Proofs.YtflljhlbnaeebaaDoor.UtfPlain
set_option maxHeartbeats 2000000 in
set_option maxRecDepth 100000 in
theorem size_any (r : Int) (w : World) (hf : FormsAt w) (h0 : 0 ≤ r) (h1 : r ≤ 1114111) : Calls Tryd.prog 38 #[.int .i64 r] w (RetI (sizeR r) w) := by
  have f2 := hf.cell 8 _ rfl
  have f3 := hf.cell 11 _ rfl
  have f4 := hf.cell 14 _ rfl
  have hc : (r < 128) ∨ (128 ≤ r ∧ r < 2048) ∨ (2048 ≤ r ∧ r < 65536) ∨ (65536 ≤ r) := by omega
  clear hf
  rcases hc with k | ⟨k, k2⟩ | ⟨k, k2⟩ | k
  · have e : sizeR r = 1 := by unfold sizeR; rw [if_pos k]
    rw [e]; clear e
    have q1 : decide (r < 128) = true := by simp; omega
    have q2 : decide (r < 2048) = true := by simp; omega
    have q3 : decide (r < 65536) = true := by simp; omega
    go_enter Tryd.func38, Tryd.ntmps38
    go_wp2
    refine wp_loop_rounds 4 ?_
    rw [rounds_succ]; go_wp2
    rw [rounds_succ]; go_wp2
    rw [rounds_succ]; go_wp2
    rw [rounds_succ]; go_wp2
    go_ret
    exact ⟨rfl, rfl⟩
  · have e : sizeR r = 2 := by unfold sizeR; rw [if_neg (by omega), if_pos k2]
    rw [e]; clear e
    have q1 : decide (r < 128) = false := by simp; omega
    have q2 : decide (r < 2048) = true := by simp; omega
    have q3 : decide (r < 65536) = true := by simp; omega
    go_enter Tryd.func38, Tryd.ntmps38
    go_wp2
    refine wp_loop_rounds 3 ?_
    rw [rounds_succ]; go_wp2
    rw [rounds_succ]; go_wp2
    rw [rounds_succ]; go_wp2
    go_ret
    exact ⟨rfl, rfl⟩
  · have e : sizeR r = 3 := by unfold sizeR; rw [if_neg (by omega), if_neg (by omega), if_pos k2]
    rw [e]; clear e
    have q2 : decide (r < 2048) = false := by simp; omega
    have q3 : decide (r < 65536) = true := by simp; omega
    go_enter Tryd.func38, Tryd.ntmps38
    go_wp2
    refine wp_loop_rounds 2 ?_
    rw [rounds_succ]; go_wp2
    rw [rounds_succ]; go_wp2
    go_ret
    exact ⟨rfl, rfl⟩
  · have e : sizeR r = 4 := by unfold sizeR; rw [if_neg (by omega), if_neg (by omega), if_neg (by omega)]
    rw [e]; clear e
    have q3 : decide (r < 65536) = false := by simp; omega
    go_enter Tryd.func38, Tryd.ntmps38
    go_wp2
    refine wp_loop_rounds 1 ?_
    rw [rounds_succ]; go_wp2
    go_ret
    exact ⟨rfl, rfl⟩
theorem or_facts : ∀ k : Fin 64, bits .or .u8 128 (k.val : Int) = 128 + k.val ∧ (k.val < 32 → bits .or .u8 192 (k.val : Int) = 192 + k.val) ∧ (k.val < 16 → bits .or .u8 224 (k.val : Int) = 224 + k.val) ∧ (k.val < 8 → bits .or .u8 240 (k.val : Int) = 240 + k.val) := by decide +kernel
theorem or_fact (x : Int) (h0 : 0 ≤ x) (h1 : x < 64) : bits .or .u8 128 x = 128 + x ∧ (x < 32 → bits .or .u8 192 x = 192 + x) ∧ (x < 16 → bits .or .u8 224 x = 224 + x) ∧ (x < 8 → bits .or .u8 240 x = 240 + x) := by
  obtain ⟨a, rfl⟩ := Int.eq_ofNat_of_zero_le h0
  have h := or_facts ⟨a, by omega⟩
  simp only at h
  exact ⟨h.1, fun k => h.2.1 (by omega), fun k => h.2.2.1 (by omega), fun k => h.2.2.2 (by omega)⟩
theorem or_zeros : ∀ k : Fin 128, bits .or .u8 0 (k.val : Int) = k.val := by decide +kernel
theorem or_zero (r : Int) (h0 : 0 ≤ r) (h1 : r < 128) : bits .or .u8 0 r = r := by
  obtain ⟨a, rfl⟩ := Int.eq_ofNat_of_zero_le h0
  exact or_zeros ⟨a, by omega⟩
/-- What Encode tells: the bytes, and 0; or nil and 6. -/
def TellEnc (r : Int) (w : World) (e : Ending) (w' : World) : Prop :=
  ∃ A c, e = .returned (.tuple #[.slice A (if isR r = true then sizeR r else 0) c, .int .i64 (if isR r = true then 0 else 6)]) ∧
    (isR r = true → w'.ownsRow w.heap.size 5 1 (.slice A (sizeR r) c) (sizeR r) (byteCells (encL r))) ∧ Below w.heap.size w w'
theorem enc_end (r : Int) (w : World) (n : Nat) (xs : List Int) (hR : isR r = true) (hn : sizeR r = n) (hx : encL r = xs) (hl : n ≤ 4) :
    TellEnc r w (.returned (.tuple #[.slice (some ⟨w.heap.size, 0, none⟩) n n, .int .i64 0])) (w.alloc (.cells (byteCells xs).toArray 5)) := by
  have hlen : xs.length = n := by rw [← hx, encL_length, hn]
  refine ⟨some ⟨w.heap.size, 0, none⟩, n, ?_, ?_, (Below.refl _ _).alloc (Nat.le_refl _) _⟩
  · rw [if_pos hR, if_pos hR, hn]
  · intro _
    obtain ⟨A, c, h1, h2, _⟩ := madeBytes_lit xs w (by omega)
    rw [hlen] at h1 h2
    cases h1
    rw [hn, hx]
    exact h2
set_option maxHeartbeats 2000000 in
set_option maxRecDepth 100000 in
theorem encode_any (r : Int) (w : World) (hf : FormsAt w) : Calls Tryd.prog 9 #[.int .i64 r] w (TellEnc r w) := by
  cases hR : isR r with
  | false =>
    have R := Lib.hid hR
    go_enter Tryd.func9, Tryd.ntmps9
    go_wp2_with fail
    refine (is_any _ _).mono ?_; rintro e w' ⟨rfl, rfl⟩
    rw [R.out]
    go_wp2
    go_ret2
    refine ⟨none, 0, ?_, ?_, Below.refl _ _⟩
    · rw [if_neg (by rw [R.out]; decide), if_neg (by rw [R.out]; decide)]; rfl
    · intro h; rw [R.out] at h; cases h
  | true =>
    have hb : 0 ≤ r ∧ r ≤ 1114111 := by simp only [isR, decide_eq_true_eq] at hR; omega
    have R := Lib.hid hR
    have S := Lib.hid (rfl : sizeR r = sizeR r)
    have F := Lib.hid hf
    have m1 : ∀ w, (Instr.makeSlice 22 (.int .i64 1) (.int .i64 1)).run Tryd.prog w = .ok (.slice (some ⟨w.heap.size, 0, none⟩) 1 1) (w.alloc (.cells #[.int .u8 0] 5)) := fun _ => by kernel_rfl
    have m2 : ∀ w, (Instr.makeSlice 22 (.int .i64 2) (.int .i64 2)).run Tryd.prog w = .ok (.slice (some ⟨w.heap.size, 0, none⟩) 2 2) (w.alloc (.cells #[.int .u8 0, .int .u8 0] 5)) := fun _ => by kernel_rfl
    have m3 : ∀ w, (Instr.makeSlice 22 (.int .i64 3) (.int .i64 3)).run Tryd.prog w = .ok (.slice (some ⟨w.heap.size, 0, none⟩) 3 3) (w.alloc (.cells #[.int .u8 0, .int .u8 0, .int .u8 0] 5)) := fun _ => by kernel_rfl
    have m4 : ∀ w, (Instr.makeSlice 22 (.int .i64 4) (.int .i64 4)).run Tryd.prog w = .ok (.slice (some ⟨w.heap.size, 0, none⟩) 4 4) (w.alloc (.cells #[.int .u8 0, .int .u8 0, .int .u8 0, .int .u8 0] 5)) := fun _ => by kernel_rfl
    have g1 := hf.cell 3 _ rfl
    have g2 := hf.cell 6 _ rfl
    have g3 := hf.cell 9 _ rfl
    have g4 := hf.cell 12 _ rfl
    have hc : (r < 128) ∨ (128 ≤ r ∧ r < 2048) ∨ (2048 ≤ r ∧ r < 65536) ∨ (65536 ≤ r) := by omega
    have hsz := hf.size
    have a1 : bits .and .i64 r 63 = r % 64 := and_six r (by omega) (by omega)
    have a2 : bits .and .i64 (r / 64) 63 = r / 64 % 64 := and_six _ (by omega) (by omega)
    have a3 : bits .and .i64 (r / 64 / 64) 63 = r / 64 / 64 % 64 := and_six _ (by omega) (by omega)
    have o1 : bits .or .u8 128 (r % 64) = 128 + r % 64 := (or_fact _ (by omega) (by omega)).1
    have o2 : bits .or .u8 128 (r / 64 % 64) = 128 + r / 64 % 64 := (or_fact _ (by omega) (by omega)).1
    have o3 : bits .or .u8 128 (r / 64 / 64 % 64) = 128 + r / 64 / 64 % 64 := (or_fact _ (by omega) (by omega)).1
    have u1 : (r % 64) % 256 = r % 64 := by omega
    have u2 : (r / 64 % 64) % 256 = r / 64 % 64 := by omega
    have u3 : (r / 64 / 64 % 64) % 256 = r / 64 / 64 % 64 := by omega
    clear hR hf
    rcases hc with k | ⟨k, k2⟩ | ⟨k, k2⟩ | k
    · have E := Lib.hid (show sizeR r = 1 by unfold sizeR; rw [if_pos k])
      have O := Lib.hid (or_zero r (by omega) (by omega))
      clear S
      go_enter Tryd.func9, Tryd.ntmps9
      go_wp2_with fail
      refine (is_any _ _).mono ?_; rintro e w' ⟨rfl, rfl⟩
      rw [R.out]
      go_wp2_with fail
      refine (size_any r _ F.out (by omega) (by omega)).mono ?_; rintro e w' ⟨rfl, rfl⟩
      rw [E.out]
      go_wp2
      refine wp_loop_rounds 1 ?_
      rw [rounds_succ]; go_wp2
      go_ret2
      show TellEnc r w (.returned (.tuple #[.slice (some ⟨w.heap.size, 0, none⟩) 1 1, .int .i64 0])) _
      rw [show bits .or .u8 0 r = r from O.out]
      exact enc_end r w 1 [r] R.out E.out (by unfold encL; rw [if_pos k]) (by omega)
    · have E := Lib.hid (show sizeR r = 2 by unfold sizeR; rw [if_neg (by omega), if_pos k2])
      clear S
      go_enter Tryd.func9, Tryd.ntmps9
      go_wp2_with fail
      refine (is_any _ _).mono ?_; rintro e w' ⟨rfl, rfl⟩
      rw [R.out]
      go_wp2_with fail
      refine (size_any r _ F.out (by omega) (by omega)).mono ?_; rintro e w' ⟨rfl, rfl⟩
      rw [E.out]
      go_wp2
      refine wp_loop_rounds 2 ?_
      rw [rounds_succ]; go_wp2
      rw [rounds_succ]; go_wp2
      go_ret2
      show TellEnc r w (.returned (.tuple #[.slice (some ⟨w.heap.size, 0, none⟩) 2 2, .int .i64 0])) _
      exact enc_end r w 2 [192 + r / 64, 128 + r % 64] R.out E.out (by unfold encL; rw [if_neg (by omega), if_pos k2]) (by omega)
    · have E := Lib.hid (show sizeR r = 3 by unfold sizeR; rw [if_neg (by omega), if_neg (by omega), if_pos k2])
      clear S
      go_enter Tryd.func9, Tryd.ntmps9
      go_wp2_with fail
      refine (is_any _ _).mono ?_; rintro e w' ⟨rfl, rfl⟩
      rw [R.out]
      go_wp2_with fail
      refine (size_any r _ F.out (by omega) (by omega)).mono ?_; rintro e w' ⟨rfl, rfl⟩
      rw [E.out]
      go_wp2
      refine wp_loop_rounds 3 ?_
      rw [rounds_succ]; go_wp2
      rw [rounds_succ]; go_wp2
      rw [rounds_succ]; go_wp2
      go_ret2
      show TellEnc r w (.returned (.tuple #[.slice (some ⟨w.heap.size, 0, none⟩) 3 3, .int .i64 0])) _
      exact enc_end r w 3 [224 + r / 64 / 64, 128 + r / 64 % 64, 128 + r % 64] R.out E.out (by unfold encL; rw [if_neg (by omega), if_neg (by omega), if_pos k2]; rw [show r / 4096 = r / 64 / 64 by omega]) (by omega)
    · have E := Lib.hid (show sizeR r = 4 by unfold sizeR; rw [if_neg (by omega), if_neg (by omega), if_neg (by omega)])
      clear S
      go_enter Tryd.func9, Tryd.ntmps9
      go_wp2_with fail
      refine (is_any _ _).mono ?_; rintro e w' ⟨rfl, rfl⟩
      rw [R.out]
      go_wp2_with fail
      refine (size_any r _ F.out (by omega) (by omega)).mono ?_; rintro e w' ⟨rfl, rfl⟩
      rw [E.out]
      go_wp2
      refine wp_loop_rounds 4 ?_
      rw [rounds_succ]; go_wp2
      rw [rounds_succ]; go_wp2
      rw [rounds_succ]; go_wp2
      rw [rounds_succ]; go_wp2
      go_ret2
      show TellEnc r w (.returned (.tuple #[.slice (some ⟨w.heap.size, 0, none⟩) 4 4, .int .i64 0])) _
      exact enc_end r w 4 [240 + r / 64 / 64 / 64, 128 + r / 64 / 64 % 64, 128 + r / 64 % 64, 128 + r % 64] R.out E.out (by unfold encL; rw [if_neg (by omega), if_neg (by omega), if_neg (by omega)]; rw [show r / 262144 = r / 64 / 64 / 64 by omega, show r / 4096 % 64 = r / 64 / 64 % 64 by omega]) (by omega)
end Go.Proofs.YtflljhlbnaeebaaDoor
