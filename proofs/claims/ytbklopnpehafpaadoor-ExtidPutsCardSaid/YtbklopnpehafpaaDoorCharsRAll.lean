/- The contract of the reference's All. Conditions: at most 2^40 bytes. -/
import Derived.Test.YtbklopnpehafpaaDoorCharsRIs
import Derived.Test.YtbklopnpehafpaaDoorUtfRunes
namespace Go.Proofs.YtbklopnpehafpaaDoor
open Go.RowKit Go.Proofs.YtbklopnpehafpaaDoor.UtfPlain Go.Proofs.YtbklopnpehafpaaDoor.CharsPlain
/-- Are all characters of a class? -/
def allK (k : Nat) (p : List Int × Option Nat) : Bool := p.2.isNone && p.1.all (isK k)
theorem allK_bad {k : Nat} {p : List Int × Option Nat} {i : Nat} (h : p.2 = some i) : allK k p = false := by unfold allK; rw [h]; rfl
theorem allK_good {k : Nat} {p : List Int × Option Nat} (h : p.2 = none) : allK k p = p.1.all (isK k) := by unfold allK; rw [h]; rfl
theorem all_no {k : Nat} {l : List Int} {j : Nat} {r : Int} (hx : l[j]? = some r) (h : isK k r = false) : l.all (isK k) = false := by
  rw [List.all_eq_false]; exact ⟨r, List.mem_of_getElem? hx, by rw [h]; decide⟩
theorem take_yes {k : Nat} {l : List Int} {j : Nat} {r : Int} (hx : l[j]? = some r) (h : isK k r = true) (h0 : (l.take j).all (isK k) = true) : (l.take (j + 1)).all (isK k) = true := by
  have hT : l.take (j + 1) = l.take j ++ [r] := by rw [List.take_add_one, hx]; rfl
  rw [hT, List.all_append, h0]; simp [h]
theorem rrunes_num {p : List Int × Option Nat} {w : World} {e : Ending} {w' : World} (h : TellRunes p w e w') (hp : p.2 = none) :
    ∃ A c, e = .returned (.tuple #[.slice A p.1.length c, .int .i64 (-1)]) ∧ NumsAt w' A p.1.length p.1 ∧ Below w.heap.size w w' := by
  obtain ⟨v, h1, h2, h3⟩ := h
  rw [hp] at h1 h2
  obtain ⟨A, c, rfl, h4⟩ := h2
  exact ⟨A, c, h1, NumsAt.of_own h4, h3⟩
theorem rrunes_no {p : List Int × Option Nat} {w : World} {e : Ending} {w' : World} {i : Nat} (h : TellRunes p w e w') (hp : p.2 = some i) :
    e = .returned (.tuple #[.slice none 0 0, .int .i64 i]) ∧ Below w.heap.size w w' := by
  obtain ⟨v, h1, h2, h3⟩ := h
  rw [hp] at h1 h2
  obtain rfl := h2
  exact ⟨h1, h3⟩
set_option maxHeartbeats 2000000 in
theorem rcall_any (k : Nat) (A : Option Addr) (n cp : Nat) (xs : List Int) (w : World) (hk : k < 5) (hn : n ≤ 1099511627776) (hb : BytesAt w A n xs) :
    Calls Tryd.prog 23 #[.slice A n cp, .int .i64 k] w (BelB (allK k (runes xs)) w) := by
  have R := Lib.hid (rrunes_any A n cp xs w hn hb)
  have hl : (runes xs).1.length ≤ n := by have := scan_len xs xs.length 0; have := hb.1; unfold runes; omega
  clear hb
  generalize runes xs = p at *
  cases hq : p.2 with
  | some i =>
    have Q := Lib.hid hq
    have G := Lib.hid (allK_bad (k := k) hq)
    clear hq
    go_enter Tryd.func23, Tryd.ntmps23
    go_wp2_with fail
    refine R.out.mono ?_
    intro e w1 h1
    obtain ⟨rfl, hB1⟩ := rrunes_no h1 Q.out
    clear h1
    have t0 : decide ((0 : Int) ≤ (i : Int)) = true := by simp
    go_wp2
    go_ret
    rw [G.out]
    exact ⟨rfl, hB1⟩
  | none =>
    have Q := Lib.hid hq
    have G := Lib.hid (allK_good (k := k) hq)
    clear hq
    go_enter Tryd.func23, Tryd.ntmps23
    go_wp2_with fail
    refine R.out.mono ?_
    intro e w1 h1
    obtain ⟨A1, c1, rfl, hN, hB1⟩ := rrunes_num h1 Q.out
    clear h1 Q
    generalize hm : p.1.length = m at *
    have N := Lib.hid hN
    have B1 := Lib.hid hB1
    have M := Lib.hid hm
    clear hN hB1 hm
    go_wp2
    go_loop [7] (fun i => ∃ j : Nat, j ≤ m ∧ i = .int .i64 j ∧ Hid ((p.1.take j).all (isK k) = true)) (fun i => m - (intOf i).toNat)
    case atStart => exact ⟨0, by omega, rfl, by show _ = _; simp⟩
    case round =>
      obtain ⟨j, hj, rfl, HE⟩ := hrel
      by_cases hlt : j < m
      · obtain ⟨a, r, hA, hx, hab, hcell⟩ := N.out.2 j hlt
        subst hA
        have X := Lib.hid hx
        clear hx hab
        cases hr : isK k r with
        | false =>
          have RR := Lib.hid hr
          clear hr
          go_wp2_with fail
          refine (ris_any k r _ hk).mono ?_
          rintro e w2 ⟨rfl, rfl⟩
          rw [RR.out]
          go_wp2
          go_ret
          rw [G.out, all_no X.out RR.out]
          exact ⟨rfl, B1.out⟩
        | true =>
          have RR := Lib.hid hr
          clear hr
          go_wp2_with fail
          refine (ris_any k r _ hk).mono ?_
          rintro e w2 ⟨rfl, rfl⟩
          rw [RR.out]
          go_wp2
          go_round
          case rel => exact ⟨j + 1, by omega, by go_num, take_yes X.out RR.out HE.out⟩
          case measure => simp [intOf]; omega
      · obtain rfl : j = m := by omega
        go_wp2
        go_ret
        have h := HE.out
        rw [← M.out, List.take_length] at h
        rw [G.out, h]
        exact ⟨rfl, B1.out⟩
end Go.Proofs.YtbklopnpehafpaaDoor
