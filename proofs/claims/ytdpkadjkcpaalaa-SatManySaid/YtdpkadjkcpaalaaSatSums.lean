/- The contracts of the sums of layer 1 over any slice of int64 values that reads as a list. -/
import Derived.Test.YtdpkadjkcpaalaaSatLaws
import Derived.Deep.QuietTactic
import Derived.BigQuiet
namespace Go.Proofs.Ytdpkadjkcpaalaa
open Go.RowKit Go.Proofs.Ytdpkadjkcpaalaa.SatPlain
/-- A slice value's places, as far as its length, read as the list. -/
def IntsAt (w : World) (A : Option Addr) (n : Nat) (zs : List Int) : Prop :=
  zs.length = n ∧ ∀ k, k < n → ∃ a z, A = some a ∧ zs[k]? = some z ∧ -9223372036854775808 ≤ z ∧ z ≤ 9223372036854775807 ∧ w.cell? (a.add k) = some (.int .i64 z)
theorem IntsAt.drewN {w : World} {A : Option Addr} {n : Nat} {zs : List Int} (h : IntsAt w A n zs) (m : Nat) : IntsAt (w.drewN m) A n zs := h
theorem IntsAt.take {w : World} {A : Option Addr} {n : Nat} {zs : List Int} (h : IntsAt w A n zs) {i : Nat} (hi : i ≤ n) : IntsAt w A i (zs.take i) := by
  refine ⟨by rw [List.length_take, h.1]; omega, fun k hk => ?_⟩
  obtain ⟨a, z, h1, h2, h3, h4, h5⟩ := h.2 k (by omega)
  exact ⟨a, z, h1, by rw [List.getElem?_take, if_pos hk]; exact h2, h3, h4, h5⟩
theorem add_add' (a : Addr) (i j : Nat) : (a.add i).add j = a.add (i + j) := by
  unfold Addr.add
  by_cases hi : i = 0 <;> by_cases hj : j = 0 <;> simp [hi, hj, Nat.add_assoc]
theorem IntsAt.drop {w : World} {A : Option Addr} {n : Nat} {zs : List Int} (h : IntsAt w A n zs) {i c : Nat} (hi : i ≤ n) (hc : n ≤ c) :
    IntsAt w (if c = i then A else A.map (·.add i)) (n - i) (zs.drop i) := by
  refine ⟨by rw [List.length_drop, h.1], fun k hk => ?_⟩
  obtain ⟨a, z, rfl, h2, h3, h4, h5⟩ := h.2 (i + k) (by omega)
  refine ⟨a.add i, z, by rw [if_neg (by omega)]; rfl, by rw [List.getElem?_drop]; exact h2, h3, h4, ?_⟩
  rw [add_add']; exact h5
theorem take_succ' {α : Type} {l : List α} {k : Nat} {z : α} (h : l[k]? = some z) : l.take (k + 1) = l.take k ++ [z] := by
  rw [List.take_add_one, h]; rfl
theorem sum_take_succ {zs : List Int} {k : Nat} {z : Int} (h : zs[k]? = some z) : sumS (zs.take (k + 1)) = addS (sumS (zs.take k)) z := by
  rw [take_succ' h, sumS_snoc]
set_option maxHeartbeats 400000 in
theorem sum_any (A : Option Addr) (n c : Nat) (zs : List Int) (w : World) (hn : n ≤ 9223372036854775807) (hr : IntsAt w A n zs) :
    Calls Try.prog 15 #[.slice A n c] w (RetI (sumS zs) w) := by
  have HR := Lib.hid hr
  clear hr
  go_enter Try.func15, Try.ntmps15
  go_wp2
  go_loop [3, 5, 8] (fun s _ i => ∃ k : Nat, k ≤ n ∧ i = .int .i64 k ∧ s = .int .i64 (sumS (zs.take k))) (fun _ _ i => n - (intOf i).toNat)
  case atStart => exact ⟨0, by omega, rfl, rfl⟩
  case round =>
    obtain ⟨k, hk, rfl, rfl⟩ := hrel
    by_cases hz : k < n
    · obtain ⟨a, z, rfl, hz1, hz2, hz3, hc⟩ := HR.out.2 k hz
      have hs := sumS_b (zs.take k)
      have E := Lib.hid (sum_take_succ hz1)
      clear hz1
      go_wp2_with fail
      refine (add_any _ _ _ (by omega) (by omega)).mono ?_; rintro e w' ⟨rfl, rfl⟩
      go_wp2
      go_round
      case rel => exact ⟨k + 1, by omega, by go_num, by rw [E.out]⟩
      case measure => simp [intOf]; omega
    · go_wp2
      go_ret
      exact ⟨ret_int (by rw [List.take_of_length_le (by have := HR.out.1; omega)]), rfl⟩
set_option maxHeartbeats 400000 in
theorem rsum_any (A : Option Addr) (n c : Nat) (zs : List Int) (w : World) (hn : n ≤ 9223372036854775807) (hr : IntsAt w A n zs) :
    Calls Try.prog 16 #[.slice A n c] w (RetI (sumS zs) w) := by
  have HR := Lib.hid hr
  clear hr
  go_enter Try.func16, Try.ntmps16
  go_wp2
  go_loop [3, 4] (fun s i => ∃ k : Nat, k ≤ n ∧ i = .int .i64 k ∧ s = .int .i64 (sumS (zs.take k))) (fun _ i => n - (intOf i).toNat)
  case atStart => exact ⟨0, by omega, rfl, rfl⟩
  case round =>
    obtain ⟨k, hk, rfl, rfl⟩ := hrel
    by_cases hz : k < n
    · obtain ⟨a, z, rfl, hz1, hz2, hz3, hc⟩ := HR.out.2 k hz
      have hs := sumS_b (zs.take k)
      have E := Lib.hid (sum_take_succ hz1)
      clear hz1
      go_wp2_with fail
      refine (radd_any _ _ _ (by omega) (by omega)).mono ?_; rintro e w' ⟨rfl, rfl⟩
      go_wp2
      go_round
      case rel => exact ⟨k + 1, by omega, by go_num, by rw [E.out]⟩
      case measure => simp [intOf]; omega
    · go_wp2
      go_ret
      exact ⟨ret_int (by rw [List.take_of_length_le (by have := HR.out.1; omega)]), rfl⟩
/-- A quiet callee inside a region that draws, the world ahead of it drawn on by a. -/
theorem quietI {P : Program} {f : FuncId} {args : Array Value} {w : World} {a n : Nat} {v : Int} (h : Calls P f args (w.drewN (a + n)) (RetI v (w.drewN (a + n)))) :
    Calls P f args (w.drewN (a + n)) fun e w'' => e = .returned (.int .i64 v) ∧ ∃ m, w'' = w.drewN (a + m) := h.mono fun _ _ ⟨he, hm⟩ => ⟨he, n, hm.symm⟩
end Go.Proofs.Ytdpkadjkcpaalaa
