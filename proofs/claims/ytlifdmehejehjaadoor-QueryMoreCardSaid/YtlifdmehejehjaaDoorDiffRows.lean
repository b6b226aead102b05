/- Rows of strings, of numbers, held against each other: narthexref15.Texts, slices.Equal, narthexref02.Ints. Conditions: none. -/
import Derived.Test.YtlifdmehejehjaaDoorDiffPath
import Derived.Test.YtlifdmehejehjaaDoorDiffParts
namespace Go.Proofs.YtlifdmehejehjaaDoor
open Go.RowKit
theorem takesEq {α : Type} {l m : List α} {k : Nat} {x : α} (h : l.take k = m.take k) (hx : l[k]? = some x) (hy : m[k]? = some x) : l.take (k + 1) = m.take (k + 1) := by
  rw [List.take_add_one, List.take_add_one, h, hx, hy]
def IntsAt (w : World) (A : Option Addr) (n : Nat) (xs : List Int) : Prop :=
  xs.length = n ∧ ∀ k, k < n → ∃ a x, A = some a ∧ xs[k]? = some x ∧ a.block < w.heap.size ∧ w.cell? (a.add k) = some (.int .i64 x)
theorem IntsAt.below {w w' : World} {A : Option Addr} {n : Nat} {xs : List Int} (h : IntsAt w A n xs) (hb : Below w.heap.size w w') : IntsAt w' A n xs :=
  ⟨h.1, fun k hk => by
    obtain ⟨a, s, h1, h2, h3, h4⟩ := h.2 k hk
    exact ⟨a, s, h1, h2, Nat.lt_of_lt_of_le h3 hb.size, (hb.cell (by rw [addBlock]; exact h3)).trans h4⟩⟩
def numCells (l : List Int) : List Value := l.map (Value.int .i64)
theorem IntsAt.of_own {w : World} {base : Nat} {e : TypeId} {A : Option Addr} {c : Nat} {xs : List Int} (h : w.ownsRow base e 1 (.slice A xs.length c) xs.length (numCells xs)) : IntsAt w A xs.length xs := by
  refine ⟨rfl, fun k hk => ?_⟩
  rcases h.2 with ⟨_, h2⟩ | ⟨g, cap, cur, hv, hg, hh, _⟩
  · omega
  · cases hv
    refine ⟨⟨g, 0, none⟩, xs[k], rfl, List.getElem?_eq_getElem hk, ?_, ?_⟩
    · exact (h.lt g rfl).2
    · exact h.cells rfl k _ (by unfold numCells; rw [List.getElem?_map, List.getElem?_eq_getElem hk]; rfl)
theorem num_no {a b : Int} (h : ¬ a = b) : (a != b) = true := by simpa using h
theorem str_no {a b : ByteArray} (h : ¬ a = b) : (a.toList == b.toList) = false := toL_no h
set_option maxHeartbeats 2000000 in
theorem texts_any (A : Option Addr) (n c : Nat) (l : List ByteArray) (A' : Option Addr) (n' c' : Nat) (m : List ByteArray) (w : World) (hl : StrsAt w A n l) (hm : StrsAt w A' n' m) (hn : n ≤ 9223372036854775807) :
    Calls Tryd.prog 20 #[.slice A n c, .slice A' n' c'] w (RetQ (decide (l = m)) w) := by
  have L := Lib.hid hl
  have M := Lib.hid hm
  clear hl hm
  by_cases hne : n = n'
  · subst hne
    go_enter Tryd.func20, Tryd.ntmps20
    go_wp2
    go_loopw [5] (fun i wr => ∃ (k d : Nat), k ≤ n ∧ i = .int .i64 k ∧ Hid (l.take k = m.take k) ∧ wr = w.drewN d) (fun i _ => n - (intOf i).toNat)
    case atStart => exact ⟨0, 0, by omega, rfl, rfl, rfl⟩
    case round =>
      obtain ⟨k, d, hk, rfl, HT, rfl⟩ := hrel
      by_cases hlt : k < n
      · obtain ⟨a, x, rfl, hx, _, g0⟩ := L.out.2 k hlt
        obtain ⟨b, y, rfl, hy, _, i0⟩ := M.out.2 k hlt
        have b0 : (0 : Int) ≤ (k : Int) := by omega
        have b1 : (k : Int) < (n : Int) := by omega
        have X := Lib.hid hx
        have Y := Lib.hid hy
        clear hx hy
        by_cases hxy : x = y
        · have XY := Lib.hid hxy
          rw [← hxy] at i0
          clear hxy
          go_wp2_with fail
          go_quiet (fail)
          go_wp2
          go_roundw
          case rel => exact ⟨k + 1, _, by omega, by go_num, takesEq HT.out X.out (by rw [XY.out]; exact Y.out), rfl⟩
          case measure => simp [intOf]; omega
        · have t4 := str_no hxy
          have XY := Lib.hid hxy
          clear hxy
          go_wp2_with fail
          go_quiet (fail)
          go_wp2
          go_ret
          have G : decide (l = m) = false := by
            refine decide_eq_false fun h => XY.out ?_
            have h1 := X.out
            rw [h, Y.out] at h1
            exact (Option.some.inj h1).symm
          rw [G]
          exact ⟨rfl, d + nq, by simp⟩
      · obtain rfl : k = n := by omega
        go_wp2
        go_ret
        have h := HT.out
        rw [← L.out.1, List.take_length, L.out.1, ← M.out.1, List.take_length] at h
        rw [decide_eq_true h]
        exact ⟨rfl, _, rfl⟩
  · have t0 : ((n : Int) != n') = true := by simp; omega
    have G : decide (l = m) = false := decide_eq_false fun h => hne (by rw [← L.out.1, ← M.out.1, h])
    rw [G]
    go_enter Tryd.func20, Tryd.ntmps20
    go_wp2
    go_ret
    exact ⟨rfl, 0, rfl⟩
set_option maxHeartbeats 2000000 in
theorem ints_any (A : Option Addr) (n c : Nat) (l : List Int) (A' : Option Addr) (n' c' : Nat) (m : List Int) (w : World) (hl : IntsAt w A n l) (hm : IntsAt w A' n' m) (hn : n ≤ 9223372036854775807) :
    Calls Tryd.prog 18 #[.slice A n c, .slice A' n' c'] w (RetQ (decide (l = m)) w) := by
  have L := Lib.hid hl
  have M := Lib.hid hm
  clear hl hm
  by_cases hne : n = n'
  · subst hne
    go_enter Tryd.func18, Tryd.ntmps18
    go_wp2
    go_loopw [5] (fun i wr => ∃ (k d : Nat), k ≤ n ∧ i = .int .i64 k ∧ Hid (l.take k = m.take k) ∧ wr = w.drewN d) (fun i _ => n - (intOf i).toNat)
    case atStart => exact ⟨0, 0, by omega, rfl, rfl, rfl⟩
    case round =>
      obtain ⟨k, d, hk, rfl, HT, rfl⟩ := hrel
      by_cases hlt : k < n
      · obtain ⟨a, x, rfl, hx, _, g0⟩ := L.out.2 k hlt
        obtain ⟨b, y, rfl, hy, _, i0⟩ := M.out.2 k hlt
        have b0 : (0 : Int) ≤ (k : Int) := by omega
        have b1 : (k : Int) < (n : Int) := by omega
        have X := Lib.hid hx
        have Y := Lib.hid hy
        clear hx hy
        by_cases hxy : x = y
        · have XY := Lib.hid hxy
          rw [← hxy] at i0
          clear hxy
          go_wp2_with fail
          go_quiet (fail)
          go_wp2
          go_roundw
          case rel => exact ⟨k + 1, _, by omega, by go_num, takesEq HT.out X.out (by rw [XY.out]; exact Y.out), rfl⟩
          case measure => simp [intOf]; omega
        · have t4 := num_no hxy
          have XY := Lib.hid hxy
          clear hxy
          go_wp2_with fail
          go_quiet (fail)
          go_wp2
          go_ret
          have G : decide (l = m) = false := by
            refine decide_eq_false fun h => XY.out ?_
            have h1 := X.out
            rw [h, Y.out] at h1
            exact (Option.some.inj h1).symm
          rw [G]
          exact ⟨rfl, d + nq, by simp⟩
      · obtain rfl : k = n := by omega
        go_wp2
        go_ret
        have h := HT.out
        rw [← L.out.1, List.take_length, L.out.1, ← M.out.1, List.take_length] at h
        rw [decide_eq_true h]
        exact ⟨rfl, _, rfl⟩
  · have t0 : ((n : Int) != n') = true := by simp; omega
    have G : decide (l = m) = false := decide_eq_false fun h => hne (by rw [← L.out.1, ← M.out.1, h])
    rw [G]
    go_enter Tryd.func18, Tryd.ntmps18
    go_wp2
    go_ret
    exact ⟨rfl, 0, rfl⟩
end Go.Proofs.YtlifdmehejehjaaDoor
