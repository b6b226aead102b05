/- The contracts of the reference of layer 2 (narthexref02) on one character. Conditions: bytes read as numbers from 0 to 255. -/
import Derived.Test.YtlifdmehejehjaaDoorBel
import Derived.Test.YtlifdmehejehjaaDoorPlainA
import Derived.Test.YtlifdmehejehjaaDoorCharsRef
import Derived.Below
import Derived.Maps.AppendAt
namespace Go.Proofs.YtlifdmehejehjaaDoor
open Go.RowKit Go.Proofs.YtlifdmehejehjaaDoor.UtfPlain
/-- A slice value's places, as far as its length, read as the bytes. -/
def BytesAt (w : World) (A : Option Addr) (n : Nat) (xs : List Int) : Prop :=
  xs.length = n ∧ ∀ k, k < n → ∃ a x, A = some a ∧ xs[k]? = some x ∧ 0 ≤ x ∧ x ≤ 255 ∧ a.block < w.heap.size ∧ w.cell? (a.add k) = some (.int .u8 x)
theorem BytesAt.below {w w' : World} {A : Option Addr} {n : Nat} {xs : List Int} (h : BytesAt w A n xs) (hb : Below w.heap.size w w') : BytesAt w' A n xs :=
  ⟨h.1, fun k hk => by
    obtain ⟨a, x, h1, h2, h3, h4, h5, h6⟩ := h.2 k hk
    exact ⟨a, x, h1, h2, h3, h4, Nat.lt_of_lt_of_le h5 hb.size, (hb.cell (p := a.add k) (by rw [addBlock]; exact h5)).trans h6⟩⟩
theorem BytesAt.drewN {w : World} {A : Option Addr} {n : Nat} {xs : List Int} (h : BytesAt w A n xs) (m : Nat) : BytesAt (w.drewN m) A n xs := h
/-- The bytes as cells. -/
def byteCells (xs : List Int) : List Value := xs.map (Value.int .u8)
theorem BytesAt.of_own {w : World} {base : Nat} {e : TypeId} {A : Option Addr} {c : Nat} {xs : List Int} (h : w.ownsRow base e 1 (.slice A xs.length c) xs.length (byteCells xs)) (hx : ∀ x ∈ xs, 0 ≤ x ∧ x ≤ 255) : BytesAt w A xs.length xs := by
  refine ⟨rfl, fun k hk => ?_⟩
  rcases h.2 with ⟨h2, h3⟩ | ⟨g, cap, cur, hv, _, hh, _⟩
  · omega
  · injection hv with hv1 hv2 hv3
    subst hv1
    have hb := hx xs[k] (List.getElem_mem _)
    refine ⟨_, xs[k], rfl, List.getElem?_eq_getElem hk, hb.1, hb.2, (h.lt g rfl).2, ?_⟩
    refine h.cells (g := g) rfl k _ ?_
    unfold byteCells; rw [List.getElem?_map, List.getElem?_eq_getElem hk]; rfl
theorem ris2_any (r : Int) (w : World) : Calls Tryd.prog 65 #[.int .i64 r] w (RetB (isR r) w) := by
  go_enter Tryd.func65, Tryd.ntmps65
  go_wp2
  all_goals
    go_ret
    exact ⟨ret_bool (by rw [Bool.eq_iff_iff]; simp [isR]; omega), rfl⟩
/-- What a call that makes a row of bytes gives. -/
def MadeBytes (xs : List Int) (w : World) (e : Ending) (w' : World) : Prop :=
  ∃ A c, e = .returned (.slice A xs.length c) ∧ w'.ownsRow w.heap.size 5 1 (.slice A xs.length c) xs.length (byteCells xs) ∧ Below w.heap.size w w'
theorem madeBytes_lit (xs : List Int) (w : World) (hl : xs.length ≤ 4) : MadeBytes xs w (.returned (.slice (some ⟨w.heap.size, 0, none⟩) xs.length xs.length)) (w.alloc (.cells (byteCells xs).toArray 5)) := by
  refine ⟨_, _, rfl, ?_, (Below.refl _ _).alloc (Nat.le_refl _) _⟩
  have h := World.ownsRow_lit (base := w.heap.size) (e := 5) (size := 1) w (byteCells xs).toArray xs.length (Nat.le_refl _) (by unfold maxLen; omega) (by simp [byteCells])
  simpa using h
set_option maxHeartbeats 400000 in
theorem rbytes_any (r : Int) (w : World) (h : isR r = true) : Calls Tryd.prog 66 #[.int .i64 r] w (MadeBytes (encL r) w) := by
  have hr : 0 ≤ r ∧ r ≤ 1114111 := by simp only [isR, decide_eq_true_eq] at h; omega
  clear h
  have hc : (r < 128) ∨ (128 ≤ r ∧ r < 2048) ∨ (2048 ≤ r ∧ r < 65536) ∨ (65536 ≤ r) := by omega
  rcases hc with h1 | ⟨h1, h2⟩ | ⟨h1, h2⟩ | h1
  · have e : encL r = [r] := by unfold encL; rw [if_pos h1]
    rw [e]; clear e
    go_enter Tryd.func66, Tryd.ntmps66
    go_wp2
    go_ret
    exact madeBytes_lit [r] w (by simp)
  · have e : encL r = [192 + r / 64, 128 + r % 64] := by unfold encL; rw [if_neg (by omega), if_pos h2]
    rw [e]; clear e
    go_enter Tryd.func66, Tryd.ntmps66
    go_wp2
    go_ret
    exact madeBytes_lit [192 + r / 64, 128 + r % 64] w (by simp)
  · have e : encL r = [224 + r / 4096, 128 + r / 64 % 64, 128 + r % 64] := by unfold encL; rw [if_neg (by omega), if_neg (by omega), if_pos h2]
    rw [e]; clear e
    go_enter Tryd.func66, Tryd.ntmps66
    go_wp2
    go_ret
    exact madeBytes_lit [224 + r / 4096, 128 + r / 64 % 64, 128 + r % 64] w (by simp)
  · have e : encL r = [240 + r / 262144, 128 + r / 4096 % 64, 128 + r / 64 % 64, 128 + r % 64] := by unfold encL; rw [if_neg (by omega), if_neg (by omega), if_neg (by omega)]
    rw [e]; clear e
    go_enter Tryd.func66, Tryd.ntmps66
    go_wp2
    go_ret
    exact madeBytes_lit [240 + r / 262144, 128 + r / 4096 % 64, 128 + r / 64 % 64, 128 + r % 64] w (by simp)
set_option maxHeartbeats 400000 in
theorem rrest_any (A : Option Addr) (n c i : Nat) (xs : List Int) (w : World) (hb : BytesAt w A n xs) :
    Calls Tryd.prog 64 #[.slice A n c, .int .i64 i] w (RetI (rest xs i) w) := by
  by_cases hlt : i < n
  · obtain ⟨a, x, rfl, hx, h0, h1, _, hc⟩ := hb.2 i hlt
    have e : rest xs i = if 128 ≤ x ∧ x ≤ 191 then x - 128 else -1 := by unfold rest; rw [hx]
    rw [e]
    clear hx e hb
    by_cases h2 : 128 ≤ x
    · by_cases h3 : x ≤ 191
      · rw [if_pos ⟨h2, h3⟩]
        go_enter Tryd.func64, Tryd.ntmps64
        go_wp2
        go_ret
        exact ⟨rfl, rfl⟩
      · rw [if_neg (by omega)]
        have t1 : decide (191 < x) = true := by simp; omega
        go_enter Tryd.func64, Tryd.ntmps64
        go_wp2
        go_ret
        exact ⟨rfl, rfl⟩
    · rw [if_neg (by omega)]
      have t1 : decide (x < 128) = true := by simp; omega
      go_enter Tryd.func64, Tryd.ntmps64
      go_wp2
      go_ret
      exact ⟨rfl, rfl⟩
  · have e : rest xs i = -1 := by unfold rest; rw [List.getElem?_eq_none (by rw [hb.1]; omega)]
    rw [e]
    clear e hb
    go_enter Tryd.func64, Tryd.ntmps64
    go_wp2
    go_ret
    exact ⟨rfl, rfl⟩
end Go.Proofs.YtlifdmehejehjaaDoor
