/- The walk of CharsAll. Conditions: the tables of chars and of utf hold what the text gives them. -/
import Derived.Test.YtflljhlbnaeebaaDoorCharsTells
import Derived.Test.YtflljhlbnaeebaaDoorCharsRange
import Derived.Test.YtflljhlbnaeebaaDoorUtfTexts
namespace Go.Proofs.YtflljhlbnaeebaaDoor
open Go.RowKit Go.Proofs.YtflljhlbnaeebaaDoor.UtfPlain Go.Proofs.YtflljhlbnaeebaaDoor.CharsPlain
/-- Are all characters of a class? -/
def allK (k : Nat) (p : List Int × Option Nat) : Bool := p.2.isNone && p.1.all (isK k)
theorem allK_bad {k : Nat} {p : List Int × Option Nat} {i : Nat} (h : p.2 = some i) : allK k p = false := by unfold allK; rw [h]; rfl
theorem allK_good {k : Nat} {p : List Int × Option Nat} (h : p.2 = none) : allK k p = p.1.all (isK k) := by unfold allK; rw [h]; rfl
theorem all_no {k : Nat} {l : List Int} {j : Nat} {r : Int} (hx : l[j]? = some r) (h : isK k r = false) : l.all (isK k) = false := by
  rw [List.all_eq_false]; exact ⟨r, List.mem_of_getElem? hx, by rw [h]; decide⟩
theorem take_yes {k : Nat} {l : List Int} {j : Nat} {r : Int} (hx : l[j]? = some r) (h : isK k r = true) (h0 : (l.take j).all (isK k) = true) : (l.take (j + 1)).all (isK k) = true := by
  have hT : l.take (j + 1) = l.take j ++ [r] := by rw [List.take_add_one, hx]; rfl
  rw [hT, List.all_append, h0]; simp [h]
theorem urunes_num {p : List Int × Option Nat} {w : World} {e : Ending} {w' : World} (h : TellURunes p w e w') (hp : p.2 = none) :
    ∃ A c, e = .returned (.tuple #[.slice A p.1.length c, .int .i64 0]) ∧ NumsAt w' A p.1.length p.1 ∧ Below w.heap.size w w' := by
  obtain ⟨A, c, h1, h2, h3⟩ := h
  rw [hp] at h1
  exact ⟨A, c, h1, NumsAt.of_own (h2 hp), h3⟩
theorem urunes_no {p : List Int × Option Nat} {w : World} {e : Ending} {w' : World} {i : Nat} (h : TellURunes p w e w') (hp : p.2 = some i) :
    ∃ A c, e = .returned (.tuple #[.slice A 0 c, .int .i64 5]) ∧ Below w.heap.size w w' := by
  obtain ⟨A, c, h1, h2, h3⟩ := h
  rw [hp] at h1
  exact ⟨A, c, h1, h3⟩
theorem rrunes_num {p : List Int × Option Nat} {w : World} {e : Ending} {w' : World} (h : TellRunes p w e w') (hp : p.2 = none) :
    ∃ A c, e = .returned (.tuple #[.slice A p.1.length c, .int .i64 (-1)]) ∧ NumsAt w' A p.1.length p.1 ∧ Below w.heap.size w w' := by
  obtain ⟨v, h1, h2, h3⟩ := h
  rw [hp] at h1 h2
  obtain ⟨A, c, rfl, h4⟩ := h2
  exact ⟨A, c, h1, NumsAt.of_own h4, h3⟩
theorem rrunes_no {p : List Int × Option Nat} {w : World} {e : Ending} {w' : World} {i : Nat} (h : TellRunes p w e w') (hp : p.2 = some i) :
    e = .returned (.tuple #[.slice none 0 0, .int .i64 i]) ∧ Below w.heap.size w w' := by
  obtain ⟨v, h1, h2, h3⟩ := h
  rw [hp] at h1 h2
  obtain rfl := h2
  exact ⟨h1, h3⟩
set_option maxHeartbeats 2000000 in
theorem call_any (k : Nat) (A : Option Addr) (n cp : Nat) (xs : List Int) (w : World) (hk : k < 5) (hn : n ≤ 1099511627776) (hcp : n ≤ cp) (hcp2 : cp ≤ 9223372036854775807) (hb : BytesAt w A n xs) (hf : FormsAt w) (ht : Tabs w) :
    Calls Tryd.prog 36 #[.slice A n cp, .func (.func (askF k)) #[] #[]] w (BelB (allK k (runes xs)) w) := by
  have R := Lib.hid (runes_any A n cp xs w hn hcp hcp2 hb hf)
  have HT := Lib.hid ht
  have eg := enters_ask k hk
  have ef := eql_func_nil (askF k)
  have hl : (runes xs).1.length ≤ n := by have := scan_len xs xs.length 0; have := hb.1; unfold runes; omega
  clear ht hf hb
  generalize runes xs = p at *
  cases hq : p.2 with
  | some i =>
    have Q := Lib.hid hq
    have G := Lib.hid (allK_bad (k := k) hq)
    clear hq
    go_enter Tryd.func36, Tryd.ntmps36
    go_wp2_with fail
    refine R.out.mono ?_
    intro e w1 h1
    obtain ⟨A1, c1, rfl, hB1⟩ := urunes_no h1 Q.out
    clear h1
    go_wp2
    go_ret
    rw [G.out]
    exact ⟨rfl, hB1⟩
  | none =>
    have Q := Lib.hid hq
    have G := Lib.hid (allK_good (k := k) hq)
    clear hq
    go_enter Tryd.func36, Tryd.ntmps36
    go_wp2_with fail
    refine R.out.mono ?_
    intro e w1 h1
    obtain ⟨A1, c1, rfl, hN, hB1⟩ := urunes_num h1 Q.out
    clear h1 Q
    generalize hm : p.1.length = m at *
    have N := Lib.hid hN
    have B1 := Lib.hid hB1
    have M := Lib.hid hm
    clear hN hB1 hm
    go_wp2
    go_loopw [22] (fun i wr => ∃ j : Nat, j ≤ m ∧ i = .int .i64 j ∧ Hid ((p.1.take j).all (isK k) = true) ∧ Hid (Below w1.heap.size w1 wr)) (fun i _ => m - (intOf i).toNat)
    case atStart => exact ⟨0, by omega, rfl, by show _ = _; simp, Below.refl _ _⟩
    case round =>
      obtain ⟨j, hj, rfl, HE, HB⟩ := hrel
      by_cases hlt : j < m
      · obtain ⟨a, r, hA, hx, hab, hcell⟩ := (N.out.below HB.out).2 j hlt
        subst hA
        have HB0 := Lib.hid (B1.out.trans (HB.out.mono B1.out.size))
        have HTr := Lib.hid (HT.out.below HB0.out HT.out.size)
        have X := Lib.hid hx
        clear hx hab
        cases hr : isK k r with
        | false =>
          have RR := Lib.hid hr
          clear hr
          go_wp2_with fail
          refine (asked_any k r _ HTr.out hk).mono ?_
          rintro e w2 ⟨rfl, hb2⟩
          rw [RR.out]
          go_wp2
          go_ret
          rw [G.out, all_no X.out RR.out]
          exact ⟨rfl, HB0.out.trans (hb2.mono HB0.out.size)⟩
        | true =>
          have RR := Lib.hid hr
          clear hr
          go_wp2_with fail
          refine (asked_any k r _ HTr.out hk).mono ?_
          rintro e w2 ⟨rfl, hb2⟩
          rw [RR.out]
          have HB2 := Lib.hid (HB.out.trans (hb2.mono HB.out.size))
          clear hb2 HB HB0
          go_wp2
          go_roundw
          case rel => exact ⟨j + 1, by omega, by go_num, take_yes X.out RR.out HE.out, HB2⟩
          case measure => simp [intOf]; omega
      · obtain rfl : j = m := by omega
        go_wp2
        go_ret
        have h := HE.out
        rw [← M.out, List.take_length] at h
        rw [G.out, h]
        exact ⟨rfl, B1.out.trans (HB.out.mono B1.out.size)⟩
set_option maxHeartbeats 1000000 in
theorem call_nil (A : Option Addr) (n cp : Nat) (xs : List Int) (w : World) (hn : n ≤ 1099511627776) (hcp : n ≤ cp) (hcp2 : cp ≤ 9223372036854775807) (hb : BytesAt w A n xs) (hf : FormsAt w) :
    Calls Tryd.prog 36 #[.slice A n cp, .nilFunc] w (BelB false w) := by
  have R := Lib.hid (runes_any A n cp xs w hn hcp hcp2 hb hf)
  have e0 := eql_nil_nil
  clear hf hb
  generalize runes xs = p at *
  cases hq : p.2 with
  | some i =>
    have Q := Lib.hid hq
    clear hq
    go_enter Tryd.func36, Tryd.ntmps36
    go_wp2_with fail
    refine R.out.mono ?_
    intro e w1 h1
    obtain ⟨A1, c1, rfl, hB1⟩ := urunes_no h1 Q.out
    clear h1
    go_wp2
    go_ret
    exact ⟨rfl, hB1⟩
  | none =>
    have Q := Lib.hid hq
    clear hq
    go_enter Tryd.func36, Tryd.ntmps36
    go_wp2_with fail
    refine R.out.mono ?_
    intro e w1 h1
    obtain ⟨A1, c1, rfl, hN, hB1⟩ := urunes_num h1 Q.out
    clear h1 hN
    go_wp2
    go_ret
    exact ⟨rfl, hB1⟩
set_option maxHeartbeats 2000000 in
theorem rcall_any (k : Nat) (A : Option Addr) (n cp : Nat) (xs : List Int) (w : World) (hk : k < 5) (hn : n ≤ 1099511627776) (hb : BytesAt w A n xs) :
    Calls Tryd.prog 37 #[.slice A n cp, .int .i64 k] w (BelB (allK k (runes xs)) w) := by
  have R := Lib.hid (rrunes_any A n cp xs w hn hb)
  have hl : (runes xs).1.length ≤ n := by have := scan_len xs xs.length 0; have := hb.1; unfold runes; omega
  clear hb
  generalize runes xs = p at *
  cases hq : p.2 with
  | some i =>
    have Q := Lib.hid hq
    have G := Lib.hid (allK_bad (k := k) hq)
    clear hq
    go_enter Tryd.func37, Tryd.ntmps37
    go_wp2_with fail
    refine R.out.mono ?_
    intro e w1 h1
    obtain ⟨rfl, hB1⟩ := rrunes_no h1 Q.out
    clear h1
    have t0 : decide ((0 : Int) ≤ (i : Int)) = true := by simp
    go_wp2
    go_ret
    rw [G.out]
    exact ⟨rfl, hB1⟩
  | none =>
    have Q := Lib.hid hq
    have G := Lib.hid (allK_good (k := k) hq)
    clear hq
    go_enter Tryd.func37, Tryd.ntmps37
    go_wp2_with fail
    refine R.out.mono ?_
    intro e w1 h1
    obtain ⟨A1, c1, rfl, hN, hB1⟩ := rrunes_num h1 Q.out
    clear h1 Q
    generalize hm : p.1.length = m at *
    have N := Lib.hid hN
    have B1 := Lib.hid hB1
    have M := Lib.hid hm
    clear hN hB1 hm
    go_wp2
    go_loop [7] (fun i => ∃ j : Nat, j ≤ m ∧ i = .int .i64 j ∧ Hid ((p.1.take j).all (isK k) = true)) (fun i => m - (intOf i).toNat)
    case atStart => exact ⟨0, by omega, rfl, by show _ = _; simp⟩
    case round =>
      obtain ⟨j, hj, rfl, HE⟩ := hrel
      by_cases hlt : j < m
      · obtain ⟨a, r, hA, hx, hab, hcell⟩ := N.out.2 j hlt
        subst hA
        have X := Lib.hid hx
        clear hx hab
        cases hr : isK k r with
        | false =>
          have RR := Lib.hid hr
          clear hr
          go_wp2_with fail
          refine (ris_any k r _ hk).mono ?_
          rintro e w2 ⟨rfl, rfl⟩
          rw [RR.out]
          go_wp2
          go_ret
          rw [G.out, all_no X.out RR.out]
          exact ⟨rfl, B1.out⟩
        | true =>
          have RR := Lib.hid hr
          clear hr
          go_wp2_with fail
          refine (ris_any k r _ hk).mono ?_
          rintro e w2 ⟨rfl, rfl⟩
          rw [RR.out]
          go_wp2
          go_round
          case rel => exact ⟨j + 1, by omega, by go_num, take_yes X.out RR.out HE.out⟩
          case measure => simp [intOf]; omega
      · obtain rfl : j = m := by omega
        go_wp2
        go_ret
        have h := HE.out
        rw [← M.out, List.take_length] at h
        rw [G.out, h]
        exact ⟨rfl, B1.out⟩
set_option maxHeartbeats 2000000 in
theorem charsAll_any (A : Option Addr) (n cp : Nat) (xs : List Int) (u : Int) (w : World) (hu : 0 ≤ u ∧ u ≤ 255) (hcp : n ≤ cp) (hcp2 : cp ≤ 9223372036854775807) (hb : BytesAt w A n xs) (hf : FormsAt w) (ht : Tabs w) :
    Calls Tryd.prog 8 #[.slice A n cp, .int .u8 u] w (BelB true w) := by
  have F := Lib.hid hf
  have T := Lib.hid ht
  have B := Lib.hid hb
  clear hf ht hb
  by_cases hn : 300 < n
  · have t0 : decide ((300 : Int) < (n : Int)) = true := by simp; omega
    go_enter Tryd.func8, Tryd.ntmps8
    go_wp2_with fail
    refine (live3_any _ T.out).mono ?_
    rintro e w' ⟨rfl, hB⟩
    go_wp2
    go_ret
    exact ⟨rfl, hB⟩
  · have t0 : decide ((300 : Int) < (n : Int)) = false := by simp; omega
    have hn1 : n ≤ 1099511627776 := by omega
    obtain ⟨k, hk, hk5⟩ : ∃ k : Nat, u % 5 = (k : Int) ∧ k < 5 := ⟨(u % 5).toNat, by omega, by omega⟩
    have K := Lib.hid hk
    have hq : (allK k (runes xs) == allK k (runes xs)) = true := by simp
    clear hk hn
    go_enter Tryd.func8, Tryd.ntmps8
    go_wp2_with fail
    rw [K.out]
    refine (ask_any k _ hk5).mono ?_
    rintro e w' ⟨rfl, rfl⟩
    go_wp2_with fail
    refine (call_any k A n cp xs _ hk5 hn1 hcp hcp2 B.out F.out T.out).mono ?_
    rintro e w1 ⟨rfl, hB1⟩
    go_wp2_with fail
    refine (rcall_any k A n cp xs _ hk5 hn1 (B.out.below hB1)).mono ?_
    rintro e w2 ⟨rfl, hB2⟩
    have hC2 := hB1.trans (hB2.mono hB1.size)
    clear hB1 hB2
    go_wp2_with fail
    refine (call_nil A n cp xs _ hn1 hcp hcp2 (B.out.below hC2) (F.out.below hC2 F.out.size)).mono ?_
    rintro e w3 ⟨rfl, hB3⟩
    have hC3 := hC2.trans (hB3.mono hC2.size)
    clear hC2 hB3
    go_wp2_with fail
    refine (live3_any _ (T.out.below hC3 T.out.size)).mono ?_
    rintro e w4 ⟨rfl, hB4⟩
    go_wp2
    go_ret
    exact ⟨rfl, hC3.trans (hB4.mono hC3.size)⟩
end Go.Proofs.YtflljhlbnaeebaaDoor
