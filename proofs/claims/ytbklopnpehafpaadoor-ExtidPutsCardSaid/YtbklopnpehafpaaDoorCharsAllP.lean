/- The contract of chars.All at any class that is asked by a function. Conditions: the tables of chars and of utf hold what the text gives them. -/
import Derived.Test.YtbklopnpehafpaaDoorCharsAll
namespace Go.Proofs.YtbklopnpehafpaaDoor
open Go.RowKit Go.Proofs.YtbklopnpehafpaaDoor.UtfPlain Go.Proofs.YtbklopnpehafpaaDoor.CharsPlain
def allP (f : Int → Bool) (p : List Int × Option Nat) : Bool := p.2.isNone && p.1.all f
theorem allP_bad {f : Int → Bool} {p : List Int × Option Nat} {i : Nat} (h : p.2 = some i) : allP f p = false := by unfold allP; rw [h]; rfl
theorem allP_good {f : Int → Bool} {p : List Int × Option Nat} (h : p.2 = none) : allP f p = p.1.all f := by unfold allP; rw [h]; rfl
theorem allP_no {f : Int → Bool} {l : List Int} {j : Nat} {r : Int} (hx : l[j]? = some r) (h : f r = false) : l.all f = false := by
  rw [List.all_eq_false]; exact ⟨r, List.mem_of_getElem? hx, by rw [h]; decide⟩
theorem takeP_yes {f : Int → Bool} {l : List Int} {j : Nat} {r : Int} (hx : l[j]? = some r) (h : f r = true) (h0 : (l.take j).all f = true) : (l.take (j + 1)).all f = true := by
  have hT : l.take (j + 1) = l.take j ++ [r] := by rw [List.take_add_one, hx]; rfl
  rw [hT, List.all_append, h0]; simp [h]
theorem allP_K (k : Nat) (p : List Int × Option Nat) : allK k p = allP (isK k) p := rfl
set_option maxHeartbeats 2000000 in
theorem callP_any (fid : FuncId) (f : Int → Bool) (eg : ∀ (args : Array Value) (w : World), (callFunc fid args).run Tryd.prog w = .ok (.enter fid args) w) (hask : ∀ (r : Int) (W : World), Tabs W → Calls Tryd.prog fid #[.int .i64 r] W (BelB (f r) W)) (A : Option Addr) (n cp : Nat) (xs : List Int) (w : World) (hn : n ≤ 1099511627776) (hcp : n ≤ cp) (hcp2 : cp ≤ 9223372036854775807) (hb : BytesAt w A n xs) (hf : FormsAt w) (ht : Tabs w) :
    Calls Tryd.prog 20 #[.slice A n cp, .func (.func fid) #[] #[]] w (BelB (allP f (runes xs)) w) := by
  have R := Lib.hid (runes_any A n cp xs w hn hcp hcp2 hb hf)
  have HT := Lib.hid ht
  have ef := eql_func_nil fid
  have hl : (runes xs).1.length ≤ n := by have := scan_len xs xs.length 0; have := hb.1; unfold runes; omega
  clear ht hf hb
  generalize runes xs = p at *
  cases hq : p.2 with
  | some i =>
    have Q := Lib.hid hq
    have G := Lib.hid (allP_bad (f := f) hq)
    clear hq
    go_enter Tryd.func20, Tryd.ntmps20
    go_wp2_with fail
    refine R.out.mono ?_
    intro e w1 h1
    obtain ⟨A1, c1, rfl, hB1⟩ := urunes_no h1 Q.out
    clear h1
    go_wp2
    go_ret
    rw [G.out]
    exact ⟨rfl, hB1⟩
  | none =>
    have Q := Lib.hid hq
    have G := Lib.hid (allP_good (f := f) hq)
    clear hq
    go_enter Tryd.func20, Tryd.ntmps20
    go_wp2_with fail
    refine R.out.mono ?_
    intro e w1 h1
    obtain ⟨A1, c1, rfl, hN, hB1⟩ := urunes_num h1 Q.out
    clear h1 Q
    generalize hm : p.1.length = m at *
    have N := Lib.hid hN
    have B1 := Lib.hid hB1
    have M := Lib.hid hm
    clear hN hB1 hm
    go_wp2
    go_loopw [22] (fun i wr => ∃ j : Nat, j ≤ m ∧ i = .int .i64 j ∧ Hid ((p.1.take j).all f = true) ∧ Hid (Below w1.heap.size w1 wr)) (fun i _ => m - (intOf i).toNat)
    case atStart => exact ⟨0, by omega, rfl, by show _ = _; simp, Below.refl _ _⟩
    case round =>
      obtain ⟨j, hj, rfl, HE, HB⟩ := hrel
      by_cases hlt : j < m
      · obtain ⟨a, r, hA, hx, hab, hcell⟩ := (N.out.below HB.out).2 j hlt
        subst hA
        have HB0 := Lib.hid (B1.out.trans (HB.out.mono B1.out.size))
        have HTr := Lib.hid (HT.out.below HB0.out HT.out.size)
        have X := Lib.hid hx
        clear hx hab
        cases hr : f r with
        | false =>
          have RR := Lib.hid hr
          clear hr
          go_wp2_with fail
          refine (hask r _ HTr.out).mono ?_
          rintro e w2 ⟨rfl, hb2⟩
          rw [RR.out]
          go_wp2
          go_ret
          rw [G.out, allP_no X.out RR.out]
          exact ⟨rfl, HB0.out.trans (hb2.mono HB0.out.size)⟩
        | true =>
          have RR := Lib.hid hr
          clear hr
          go_wp2_with fail
          refine (hask r _ HTr.out).mono ?_
          rintro e w2 ⟨rfl, hb2⟩
          rw [RR.out]
          have HB2 := Lib.hid (HB.out.trans (hb2.mono HB.out.size))
          clear hb2 HB HB0
          go_wp2
          go_roundw
          case rel => exact ⟨j + 1, by omega, by go_num, takeP_yes X.out RR.out HE.out, HB2⟩
          case measure => simp [intOf]; omega
      · obtain rfl : j = m := by omega
        go_wp2
        go_ret
        have h := HE.out
        rw [← M.out, List.take_length] at h
        rw [G.out, h]
        exact ⟨rfl, B1.out.trans (HB.out.mono B1.out.size)⟩
end Go.Proofs.YtbklopnpehafpaaDoor
