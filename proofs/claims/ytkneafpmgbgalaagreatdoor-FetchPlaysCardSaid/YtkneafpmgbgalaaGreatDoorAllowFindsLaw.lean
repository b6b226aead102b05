/- The contracts of narthexref22.Great, Find, Check; the walks of narthexlaw22.AllowFinds and AllowSame (printed by gen-allowfinds.py). Conditions: internal/bytealg.MaxLen holds an int. -/
import Derived.Test.YtkneafpmgbgalaaGreatDoorAllowList
namespace Go.Proofs.YtkneafpmgbgalaaGreatDoor
open Go.RowKit Go.Shelf Go.Proofs.YtkneafpmgbgalaaGreatDoor.CharsPlain Go.Proofs.YtkneafpmgbgalaaGreatDoor.UriPlain
set_option linter.unusedVariables false
set_option linter.unusedSimpArgs false
/-- Great tells; if no, the row is small. -/
def TellGreat (l : List ByteArray) (w : World) (e : Ending) (w' : World) : Prop := ∃ b : Bool, e = .returned (.bool b) ∧ w = w' ∧ (b = false → l.length ≤ 80 ∧ ∀ x ∈ l, x.size ≤ 300)
theorem snocS {l : List ByteArray} {k : Nat} {x : ByteArray} (h : ∀ y ∈ l.take k, y.size ≤ 300) (hx : l[k]? = some x) (hp : x.size ≤ 300) : ∀ y ∈ l.take (k + 1), y.size ≤ 300 := by
  intro y hy
  rw [List.take_add_one, hx] at hy
  rcases List.mem_append.1 hy with hy | hy
  · exact h y hy
  · obtain rfl : y = x := by simpa using hy
    exact hp
set_option maxRecDepth 100000 in
set_option maxHeartbeats 2000000 in
theorem great22_any (A : Option Addr) (n c : Nat) (l : List ByteArray) (w : World) (hl : TsAt w A n l) (hn : n ≤ 9223372036854775807) :
    Calls Tryz.prog 19 #[.slice A n c] w (TellGreat l w) := by
  have L := Lib.hid hl
  clear hl
  go_enter Tryz.func19, Tryz.ntmps19
  go_wp2
  go_loopw [3] (fun v3 wr => ∃ k : Nat, k ≤ n ∧ k ≤ 100 ∧ v3 = .int .i64 k ∧ Hid (∀ y ∈ l.take k, y.size ≤ 300) ∧ wr = w) (fun v3 _ => 100 - (intOf v3).toNat)
  case atStart => exact ⟨0, Nat.zero_le _, Nat.zero_le _, rfl, by intro y hy; simp at hy, rfl⟩
  case round =>
    obtain ⟨k, hk, hk2, rfl, HT, rfl⟩ := hrel
    by_cases hlt : k < n
    · by_cases h100 : k < 100
      · obtain ⟨a, x, rfl, hx, _, g0⟩ := L.out.2 k hlt
        have b0 : (0 : Int) ≤ (k : Int) := by omega
        have b1 : (k : Int) < (n : Int) := by omega
        have b2 : (k : Int) < 100 := by omega
        by_cases hz : 300 < x.size
        · have b3 : (300 : Int) < (x.size : Int) := by omega
          clear hx
          go_wp2
          go_ret
          exact ⟨true, rfl, rfl, fun h => by cases h⟩
        · have b3 : ¬ (300 : Int) < (x.size : Int) := by omega
          have HT2 := Lib.hid (snocS HT.out hx (by omega))
          clear hx HT
          go_wp2
          go_roundw
          case rel => exact ⟨k + 1, by omega, by omega, by go_num, HT2.out, trivial⟩
          case measure => simp [intOf]; omega
      · obtain rfl : k = 100 := by omega
        have b1 : (100 : Int) < (n : Int) := by omega
        have b2 : (80 : Int) < (n : Int) := by omega
        go_wp2
        go_ret
        exact ⟨true, rfl, rfl, fun h => by cases h⟩
    · obtain rfl : k = n := by omega
      have b1 : ¬ (k : Int) < (k : Int) := by omega
      by_cases h80 : 80 < k
      · have b2 : (80 : Int) < (k : Int) := by omega
        go_wp2
        go_ret
        exact ⟨true, rfl, rfl, fun h => by cases h⟩
      · have b2 : ¬ (80 : Int) < (k : Int) := by omega
        go_wp2
        go_ret
        exact ⟨false, rfl, rfl, fun _ => ⟨by rw [L.out.1]; omega, by have := HT.out; rwa [← L.out.1, List.take_length] at this⟩⟩
theorem findB_match (l : List ByteArray) (s : List UInt8) : findB l s = l.any (fun p => matchB p.data.toList s) := by
  unfold findB matchB
  cases decide (uriE s = 0) <;> simp
set_option maxRecDepth 100000 in
set_option maxHeartbeats 2000000 in
theorem rfind22_any (A : Option Addr) (n c : Nat) (l : List ByteArray) (s : ByteArray) (w : World) (hl : TsAt w A n l) (hn : n ≤ 1048576) (hS : Shorts l) :
    Calls Tryz.prog 17 #[.slice A n c, .string s] w (TellFind (bS (findT l s.data.toList)) (findB l s.data.toList) w) := by
  have L := Lib.hid hl
  have HS := Lib.hid hS
  have HF := Lib.hid (findB_match l s.data.toList)
  obtain ⟨T, hT⟩ : ∃ T, T = bS (normU s.data.toList) := ⟨_, rfl⟩
  obtain ⟨k0, hk0⟩ : ∃ k, k = uriE s.data.toList := ⟨_, rfl⟩
  have C2 := Lib.hid (fun w' => rnorm_is s T k0 w' hT.symm hk0.symm)
  have HT : Hid (bS (findT l s.data.toList) = if findB l s.data.toList then T else ⟨#[]⟩) := by show _ = _; unfold findT; rw [hT]; split <;> rfl
  clear hl hS hT hk0
  generalize findB l s.data.toList = F at HF HT ⊢
  generalize bS (findT l s.data.toList) = X at HT ⊢
  go_enter Tryz.func17, Tryz.ntmps17
  go_wp2
  go_loopw [6] (fun v6 wr => ∃ k : Nat, k ≤ n ∧ v6 = .int .i64 k ∧ Hid (∀ y ∈ l.take k, matchB y.data.toList s.data.toList = false) ∧ Hid (Below w.heap.size w wr)) (fun v6 _ => n - (intOf v6).toNat)
  case atStart => exact ⟨0, Nat.zero_le _, rfl, by intro y hy; simp at hy, Below.refl _ _⟩
  case round =>
    obtain ⟨k, hk, rfl, HN, HB⟩ := hrel
    by_cases hlt : k < n
    · obtain ⟨a, x, rfl, hx, _, g0⟩ := (L.out.below HB.out).2 k hlt
      have b0 : (0 : Int) ≤ (k : Int) := by omega
      have b1 : (k : Int) < (n : Int) := by omega
      have C := rmatch22_any x s wr (HS.out x (List.mem_of_getElem? hx))
      cases hpx : matchB x.data.toList s.data.toList with
      | true =>
        rw [hpx] at C
        have HY : Hid (F = true) := by show _ = _; rw [HF.out, List.any_eq_true]; exact ⟨x, List.mem_of_getElem? hx, hpx⟩
        clear hpx hx
        go_wp2_with fail
        refine C.mono ?_
        rintro e w1 ⟨rfl, hb⟩
        have HB1 := Lib.hid (HB.out.trans (hb.mono HB.out.size))
        clear hb
        go_wp2_with fail
        refine (C2.out _).mono ?_
        rintro e w2 ⟨rfl, hb⟩
        go_wp2
        go_ret2
        rw [HT.out, HY.out]
        exact ⟨rfl, HB1.out.trans (hb.mono HB1.out.size)⟩
      | false =>
        rw [hpx] at C
        have HN2 := Lib.hid (snocG (p := fun y : ByteArray => matchB y.data.toList s.data.toList) HN.out hx hpx)
        clear hpx hx HN
        go_wp2_with fail
        refine C.mono ?_
        rintro e w1 ⟨rfl, hb⟩
        go_wp2
        go_roundw
        case rel => exact ⟨k + 1, by omega, by go_num, HN2.out, HB.out.trans (hb.mono HB.out.size)⟩
        case measure => simp [intOf]; omega
    · obtain rfl : k = n := by omega
      have HY : Hid (F = false) := by
        have h1 := HN.out
        rw [← L.out.1, List.take_length] at h1
        show _ = _
        rw [HF.out, List.any_eq_false]
        intro y hy; rw [h1 y hy]; decide
      go_wp2
      go_ret2
      rw [HT.out, HY.out]
      exact ⟨rfl, HB.out⟩
set_option maxRecDepth 100000 in
set_option maxHeartbeats 2000000 in
theorem rcheck22_any (A : Option Addr) (n c : Nat) (l : List ByteArray) (w : World) (hl : TsAt w A n l) (hn : n ≤ 1048576) (hS : Shorts l) :
    Calls Tryz.prog 20 #[.slice A n c] w (TellI (checkE l) w) := by
  by_cases hb : 64 < n
  · have b1 : (64 : Int) < (n : Int) := by omega
    have HF : Hid (checkE l = 13) := by show _ = _; unfold checkE; rw [hl.1, if_pos hb]
    clear hl
    go_enter Tryz.func20, Tryz.ntmps20
    go_wp2
    go_ret
    rw [HF.out]
    exact ⟨rfl, Below.refl _ _⟩
  · have b1 : ¬ (64 : Int) < (n : Int) := by omega
    have HF : Hid (checkE l = if l.any (fun p => !decide (anormE p.data.toList = 0)) then 7 else 0) := by show _ = _; unfold checkE; rw [hl.1, if_neg hb]
    have L := Lib.hid hl
    have HS := Lib.hid hS
    clear hl hS
    generalize checkE l = X at HF ⊢
    go_enter Tryz.func20, Tryz.ntmps20
    go_wp2
    go_loopw [3] (fun v6 wr => ∃ k : Nat, k ≤ n ∧ v6 = .int .i64 k ∧ Hid (∀ y ∈ l.take k, (!decide (anormE y.data.toList = 0)) = false) ∧ Hid (Below w.heap.size w wr)) (fun v6 _ => n - (intOf v6).toNat)
    case atStart => exact ⟨0, Nat.zero_le _, rfl, by intro y hy; simp at hy, Below.refl _ _⟩
    case round =>
      obtain ⟨k, hk, rfl, HN, HB⟩ := hrel
      by_cases hlt : k < n
      · obtain ⟨a, x, rfl, hx, _, g0⟩ := (L.out.below HB.out).2 k hlt
        have b0 : (0 : Int) ≤ (k : Int) := by omega
        have b1 : (k : Int) < (n : Int) := by omega
        have C := rnorm22_any x wr (HS.out x (List.mem_of_getElem? hx))
        obtain ⟨q, hq⟩ : ∃ q, q = anormE x.data.toList := ⟨_, rfl⟩
        rw [← hq] at C
        have C := Lib.hid C
        by_cases hq0 : q = 0
        · subst hq0
          have HN2 := Lib.hid (snocG (p := fun y : ByteArray => !decide (anormE y.data.toList = 0)) HN.out hx (by rw [← hq]; rfl))
          clear hx HN hq
          go_wp2_with fail
          refine C.out.mono ?_
          rintro e w1 ⟨rfl, hb⟩
          go_wp2
          go_roundw
          case rel => exact ⟨k + 1, by omega, by go_num, HN2.out, HB.out.trans (hb.mono HB.out.size)⟩
          case measure => simp [intOf]; omega
        · have t1 : (q == 0) = false := by simpa using hq0
          have t2 : (q != 0) = true := by simpa using hq0
          have HY : Hid (X = 7) := by
            show _ = _
            have : l.any (fun p => !decide (anormE p.data.toList = 0)) = true := by
              rw [List.any_eq_true]; exact ⟨x, List.mem_of_getElem? hx, by rw [← hq]; simpa using hq0⟩
            rw [HF.out, this]; rfl
          clear hx HN hq
          go_wp2_with fail
          refine C.out.mono ?_
          rintro e w1 ⟨rfl, hb⟩
          go_wp2
          go_ret
          rw [HY.out]
          exact ⟨rfl, HB.out.trans (hb.mono HB.out.size)⟩
      · obtain rfl : k = n := by omega
        have HY : Hid (X = 0) := by
          have h1 := HN.out
          rw [← L.out.1, List.take_length] at h1
          have : l.any (fun p => !decide (anormE p.data.toList = 0)) = false := by
            rw [List.any_eq_false]; intro y hy; rw [h1 y hy]; decide
          show _ = _
          rw [HF.out, this]; rfl
        go_wp2
        go_ret
        rw [HY.out]
        exact ⟨rfl, HB.out⟩
theorem wpList_append_nilA {P : Program} (w : World) {ops : Array Oper} {rest : List Oper} {o : Oper} {a : Act} {Q : Exit → Act → World → Prop} (hgd : o.guard = none) (s x : Operand) (t : TypeId)
    (ho : o.op = .call { callee := .builtin .append, args := #[s, x], argTypes := #[t, t] }) (base : Nat) (e : TypeId) (i : TypeInfo) (h1 : P.underlying t = some (.slice e)) (h2 : P.info? e = some i) (hsz : i.size = 1)
    (v : Value) (n : Nat) (xs : List Value) (hs : a.eval s = v) (hown : w.ownsRow base e 1 v n xs) (hx : a.eval x = .slice none 0 0)
    (h : wpList P ops Q rest (a.put o.dst v) w) : wpList P ops Q (o :: rest) a w := by
  refine wpList_plain hgd fun K' hK' => ?_
  have hrun := run_append_owned_none (P := P) (w := w) base t o.type e i 1 h1 h2 v n xs hown
  unfold Oper.wp
  simp [execOp, ho, hs, hx, resolve, invoke, builtin, hrun, Result.andThen]
  exact hK' _ _ h
theorem findB_more (l : List ByteArray) (x : ByteArray) (id : List UInt8) (h : findB l id = true) : findB (x :: l) id = true ∧ findT (x :: l) id = findT l id := by
  have h2 : findB (x :: l) id = true := by
    unfold findB at *
    rw [Bool.and_eq_true] at *
    exact ⟨h.1, by rw [List.any_cons, h.2, Bool.or_true]⟩
  exact ⟨h2, by unfold findT; rw [h, h2]⟩
theorem findB_nil (id : List UInt8) : findB [] id = false := by unfold findB; simp
theorem findT_no {l : List ByteArray} {id : List UInt8} (h : findB l id = false) : findT l id = [] := by unfold findT; rw [h]; rfl
/-- What is meant in normal form is meant, and its normal form is itself. -/
theorem find_same (l : List ByteArray) (s : List UInt8) (hs : s.length ≤ 300) (h : findB l s = true) : findB l (normU s) = true ∧ findT l (normU s) = normU s := by
  have h0 : uriE s = 0 := by
    unfold findB at h
    rw [Bool.and_eq_true] at h
    exact of_decide_eq_true h.1
  have hu : parseU s = some (uriU s) := by
    rcases uriE_cases s with ⟨_, h2, _⟩ | h2
    · exact h2
    · exact absurd h0 h2
  have hn : normU s = textU (uriU s) := by unfold normU; rw [if_pos h0]
  have hl : ¬ 4096 < (textU (uriU s)).length := by have := (text_length _ _ hu).1; omega
  have hp : parseU (normU s) = some (uriU s) := by rw [hn]; exact parse_again _ _ hu
  have he : uriE (normU s) = 0 := by unfold uriE; rw [hn, if_neg hl, ← hn, hp]
  have hq : uriU (normU s) = uriU s := by unfold uriU; rw [hn, if_neg hl, ← hn, hp]; rfl
  have hnn : normU (normU s) = normU s := by
    have e : ∀ l, normU l = if uriE l = 0 then textU (uriU l) else [] := fun _ => rfl
    rw [e (normU s), if_pos he, hq, hn]
  have h2 : findB l (normU s) = true := by
    unfold findB at h ⊢
    rw [he, hnn]
    rw [h0] at h
    exact h
  exact ⟨h2, by unfold findT; rw [h2, hnn]; rfl⟩
end Go.Proofs.YtkneafpmgbgalaaGreatDoor
