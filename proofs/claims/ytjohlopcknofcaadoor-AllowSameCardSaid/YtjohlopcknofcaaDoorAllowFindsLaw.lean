/- The contracts of narthexref22.Great, Find, Check; the walks of narthexlaw22.AllowFinds and AllowSame (printed by gen-allowfinds.py). Conditions: internal/bytealg.MaxLen holds an int. -/
import Derived.Test.YtjohlopcknofcaaDoorAllowList
namespace Go.Proofs.YtjohlopcknofcaaDoor
open Go.RowKit Go.Shelf Go.Proofs.YtjohlopcknofcaaDoor.CharsPlain Go.Proofs.YtjohlopcknofcaaDoor.UriPlain
set_option linter.unusedVariables false
set_option linter.unusedSimpArgs false
/-- Great tells; if no, the row is small. -/
def TellGreat (l : List ByteArray) (w : World) (e : Ending) (w' : World) : Prop := ∃ b : Bool, e = .returned (.bool b) ∧ w = w' ∧ (b = false → l.length ≤ 80 ∧ ∀ x ∈ l, x.size ≤ 300)
theorem snocS {l : List ByteArray} {k : Nat} {x : ByteArray} (h : ∀ y ∈ l.take k, y.size ≤ 300) (hx : l[k]? = some x) (hp : x.size ≤ 300) : ∀ y ∈ l.take (k + 1), y.size ≤ 300 := by
  intro y hy
  rw [List.take_add_one, hx] at hy
  rcases List.mem_append.1 hy with hy | hy
  · exact h y hy
  · obtain rfl : y = x := by simpa using hy
    exact hp
set_option maxRecDepth 100000 in
set_option maxHeartbeats 2000000 in
theorem great22_any (A : Option Addr) (n c : Nat) (l : List ByteArray) (w : World) (hl : TsAt w A n l) (hn : n ≤ 9223372036854775807) :
    Calls Tryd.prog 12 #[.slice A n c] w (TellGreat l w) := by
  have L := Lib.hid hl
  clear hl
  go_enter Tryd.func12, Tryd.ntmps12
  go_wp2
  go_loopw [3] (fun v3 wr => ∃ k : Nat, k ≤ n ∧ k ≤ 100 ∧ v3 = .int .i64 k ∧ Hid (∀ y ∈ l.take k, y.size ≤ 300) ∧ wr = w) (fun v3 _ => 100 - (intOf v3).toNat)
  case atStart => exact ⟨0, Nat.zero_le _, Nat.zero_le _, rfl, by intro y hy; simp at hy, rfl⟩
  case round =>
    obtain ⟨k, hk, hk2, rfl, HT, rfl⟩ := hrel
    by_cases hlt : k < n
    · by_cases h100 : k < 100
      · obtain ⟨a, x, rfl, hx, _, g0⟩ := L.out.2 k hlt
        have b0 : (0 : Int) ≤ (k : Int) := by omega
        have b1 : (k : Int) < (n : Int) := by omega
        have b2 : (k : Int) < 100 := by omega
        by_cases hz : 300 < x.size
        · have b3 : (300 : Int) < (x.size : Int) := by omega
          clear hx
          go_wp2
          go_ret
          exact ⟨true, rfl, rfl, fun h => by cases h⟩
        · have b3 : ¬ (300 : Int) < (x.size : Int) := by omega
          have HT2 := Lib.hid (snocS HT.out hx (by omega))
          clear hx HT
          go_wp2
          go_roundw
          case rel => exact ⟨k + 1, by omega, by omega, by go_num, HT2.out, trivial⟩
          case measure => simp [intOf]; omega
      · obtain rfl : k = 100 := by omega
        have b1 : (100 : Int) < (n : Int) := by omega
        have b2 : (80 : Int) < (n : Int) := by omega
        go_wp2
        go_ret
        exact ⟨true, rfl, rfl, fun h => by cases h⟩
    · obtain rfl : k = n := by omega
      have b1 : ¬ (k : Int) < (k : Int) := by omega
      by_cases h80 : 80 < k
      · have b2 : (80 : Int) < (k : Int) := by omega
        go_wp2
        go_ret
        exact ⟨true, rfl, rfl, fun h => by cases h⟩
      · have b2 : ¬ (80 : Int) < (k : Int) := by omega
        go_wp2
        go_ret
        exact ⟨false, rfl, rfl, fun _ => ⟨by rw [L.out.1]; omega, by have := HT.out; rwa [← L.out.1, List.take_length] at this⟩⟩
theorem findB_match (l : List ByteArray) (s : List UInt8) : findB l s = l.any (fun p => matchB p.data.toList s) := by
  unfold findB matchB
  cases decide (uriE s = 0) <;> simp
set_option maxRecDepth 100000 in
set_option maxHeartbeats 2000000 in
theorem rfind22_any (A : Option Addr) (n c : Nat) (l : List ByteArray) (s : ByteArray) (w : World) (hl : TsAt w A n l) (hn : n ≤ 1048576) (hS : Shorts l) :
    Calls Tryd.prog 14 #[.slice A n c, .string s] w (TellFind (bS (findT l s.data.toList)) (findB l s.data.toList) w) := by
  have L := Lib.hid hl
  have HS := Lib.hid hS
  have HF := Lib.hid (findB_match l s.data.toList)
  obtain ⟨T, hT⟩ : ∃ T, T = bS (normU s.data.toList) := ⟨_, rfl⟩
  obtain ⟨k0, hk0⟩ : ∃ k, k = uriE s.data.toList := ⟨_, rfl⟩
  have C2 := Lib.hid (fun w' => rnorm_is s T k0 w' hT.symm hk0.symm)
  have HT : Hid (bS (findT l s.data.toList) = if findB l s.data.toList then T else ⟨#[]⟩) := by show _ = _; unfold findT; rw [hT]; split <;> rfl
  clear hl hS hT hk0
  generalize findB l s.data.toList = F at HF HT ⊢
  generalize bS (findT l s.data.toList) = X at HT ⊢
  go_enter Tryd.func14, Tryd.ntmps14
  go_wp2
  go_loopw [6] (fun v6 wr => ∃ k : Nat, k ≤ n ∧ v6 = .int .i64 k ∧ Hid (∀ y ∈ l.take k, matchB y.data.toList s.data.toList = false) ∧ Hid (Below w.heap.size w wr)) (fun v6 _ => n - (intOf v6).toNat)
  case atStart => exact ⟨0, Nat.zero_le _, rfl, by intro y hy; simp at hy, Below.refl _ _⟩
  case round =>
    obtain ⟨k, hk, rfl, HN, HB⟩ := hrel
    by_cases hlt : k < n
    · obtain ⟨a, x, rfl, hx, _, g0⟩ := (L.out.below HB.out).2 k hlt
      have b0 : (0 : Int) ≤ (k : Int) := by omega
      have b1 : (k : Int) < (n : Int) := by omega
      have C := rmatch22_any x s wr (HS.out x (List.mem_of_getElem? hx))
      cases hpx : matchB x.data.toList s.data.toList with
      | true =>
        rw [hpx] at C
        have HY : Hid (F = true) := by show _ = _; rw [HF.out, List.any_eq_true]; exact ⟨x, List.mem_of_getElem? hx, hpx⟩
        clear hpx hx
        go_wp2_with fail
        refine C.mono ?_
        rintro e w1 ⟨rfl, hb⟩
        have HB1 := Lib.hid (HB.out.trans (hb.mono HB.out.size))
        clear hb
        go_wp2_with fail
        refine (C2.out _).mono ?_
        rintro e w2 ⟨rfl, hb⟩
        go_wp2
        go_ret2
        rw [HT.out, HY.out]
        exact ⟨rfl, HB1.out.trans (hb.mono HB1.out.size)⟩
      | false =>
        rw [hpx] at C
        have HN2 := Lib.hid (snocG (p := fun y : ByteArray => matchB y.data.toList s.data.toList) HN.out hx hpx)
        clear hpx hx HN
        go_wp2_with fail
        refine C.mono ?_
        rintro e w1 ⟨rfl, hb⟩
        go_wp2
        go_roundw
        case rel => exact ⟨k + 1, by omega, by go_num, HN2.out, HB.out.trans (hb.mono HB.out.size)⟩
        case measure => simp [intOf]; omega
    · obtain rfl : k = n := by omega
      have HY : Hid (F = false) := by
        have h1 := HN.out
        rw [← L.out.1, List.take_length] at h1
        show _ = _
        rw [HF.out, List.any_eq_false]
        intro y hy; rw [h1 y hy]; decide
      go_wp2
      go_ret2
      rw [HT.out, HY.out]
      exact ⟨rfl, HB.out⟩
set_option maxRecDepth 100000 in
set_option maxHeartbeats 2000000 in
theorem rcheck22_any (A : Option Addr) (n c : Nat) (l : List ByteArray) (w : World) (hl : TsAt w A n l) (hn : n ≤ 1048576) (hS : Shorts l) :
    Calls Tryd.prog 16 #[.slice A n c] w (TellI (checkE l) w) := by
  by_cases hb : 64 < n
  · have b1 : (64 : Int) < (n : Int) := by omega
    have HF : Hid (checkE l = 13) := by show _ = _; unfold checkE; rw [hl.1, if_pos hb]
    clear hl
    go_enter Tryd.func16, Tryd.ntmps16
    go_wp2
    go_ret
    rw [HF.out]
    exact ⟨rfl, Below.refl _ _⟩
  · have b1 : ¬ (64 : Int) < (n : Int) := by omega
    have HF : Hid (checkE l = if l.any (fun p => !decide (anormE p.data.toList = 0)) then 7 else 0) := by show _ = _; unfold checkE; rw [hl.1, if_neg hb]
    have L := Lib.hid hl
    have HS := Lib.hid hS
    clear hl hS
    generalize checkE l = X at HF ⊢
    go_enter Tryd.func16, Tryd.ntmps16
    go_wp2
    go_loopw [3] (fun v6 wr => ∃ k : Nat, k ≤ n ∧ v6 = .int .i64 k ∧ Hid (∀ y ∈ l.take k, (!decide (anormE y.data.toList = 0)) = false) ∧ Hid (Below w.heap.size w wr)) (fun v6 _ => n - (intOf v6).toNat)
    case atStart => exact ⟨0, Nat.zero_le _, rfl, by intro y hy; simp at hy, Below.refl _ _⟩
    case round =>
      obtain ⟨k, hk, rfl, HN, HB⟩ := hrel
      by_cases hlt : k < n
      · obtain ⟨a, x, rfl, hx, _, g0⟩ := (L.out.below HB.out).2 k hlt
        have b0 : (0 : Int) ≤ (k : Int) := by omega
        have b1 : (k : Int) < (n : Int) := by omega
        have C := rnorm22_any x wr (HS.out x (List.mem_of_getElem? hx))
        obtain ⟨q, hq⟩ : ∃ q, q = anormE x.data.toList := ⟨_, rfl⟩
        rw [← hq] at C
        have C := Lib.hid C
        by_cases hq0 : q = 0
        · subst hq0
          have HN2 := Lib.hid (snocG (p := fun y : ByteArray => !decide (anormE y.data.toList = 0)) HN.out hx (by rw [← hq]; rfl))
          clear hx HN hq
          go_wp2_with fail
          refine C.out.mono ?_
          rintro e w1 ⟨rfl, hb⟩
          go_wp2
          go_roundw
          case rel => exact ⟨k + 1, by omega, by go_num, HN2.out, HB.out.trans (hb.mono HB.out.size)⟩
          case measure => simp [intOf]; omega
        · have t1 : (q == 0) = false := by simpa using hq0
          have t2 : (q != 0) = true := by simpa using hq0
          have HY : Hid (X = 7) := by
            show _ = _
            have : l.any (fun p => !decide (anormE p.data.toList = 0)) = true := by
              rw [List.any_eq_true]; exact ⟨x, List.mem_of_getElem? hx, by rw [← hq]; simpa using hq0⟩
            rw [HF.out, this]; rfl
          clear hx HN hq
          go_wp2_with fail
          refine C.out.mono ?_
          rintro e w1 ⟨rfl, hb⟩
          go_wp2
          go_ret
          rw [HY.out]
          exact ⟨rfl, HB.out.trans (hb.mono HB.out.size)⟩
      · obtain rfl : k = n := by omega
        have HY : Hid (X = 0) := by
          have h1 := HN.out
          rw [← L.out.1, List.take_length] at h1
          have : l.any (fun p => !decide (anormE p.data.toList = 0)) = false := by
            rw [List.any_eq_false]; intro y hy; rw [h1 y hy]; decide
          show _ = _
          rw [HF.out, this]; rfl
        go_wp2
        go_ret
        rw [HY.out]
        exact ⟨rfl, HB.out⟩
theorem wpList_append_nilA {P : Program} (w : World) {ops : Array Oper} {rest : List Oper} {o : Oper} {a : Act} {Q : Exit → Act → World → Prop} (hgd : o.guard = none) (s x : Operand) (t : TypeId)
    (ho : o.op = .call { callee := .builtin .append, args := #[s, x], argTypes := #[t, t] }) (base : Nat) (e : TypeId) (i : TypeInfo) (h1 : P.underlying t = some (.slice e)) (h2 : P.info? e = some i) (hsz : i.size = 1)
    (v : Value) (n : Nat) (xs : List Value) (hs : a.eval s = v) (hown : w.ownsRow base e 1 v n xs) (hx : a.eval x = .slice none 0 0)
    (h : wpList P ops Q rest (a.put o.dst v) w) : wpList P ops Q (o :: rest) a w := by
  refine wpList_plain hgd fun K' hK' => ?_
  have hrun := run_append_owned_none (P := P) (w := w) base t o.type e i 1 h1 h2 v n xs hown
  unfold Oper.wp
  simp [execOp, ho, hs, hx, resolve, invoke, builtin, hrun, Result.andThen]
  exact hK' _ _ h
theorem findB_more (l : List ByteArray) (x : ByteArray) (id : List UInt8) (h : findB l id = true) : findB (x :: l) id = true ∧ findT (x :: l) id = findT l id := by
  have h2 : findB (x :: l) id = true := by
    unfold findB at *
    rw [Bool.and_eq_true] at *
    exact ⟨h.1, by rw [List.any_cons, h.2, Bool.or_true]⟩
  exact ⟨h2, by unfold findT; rw [h, h2]⟩
theorem findB_nil (id : List UInt8) : findB [] id = false := by unfold findB; simp
theorem findT_no {l : List ByteArray} {id : List UInt8} (h : findB l id = false) : findT l id = [] := by unfold findT; rw [h]; rfl
/-- What is meant in normal form is meant, and its normal form is itself. -/
theorem find_same (l : List ByteArray) (s : List UInt8) (hs : s.length ≤ 300) (h : findB l s = true) : findB l (normU s) = true ∧ findT l (normU s) = normU s := by
  have h0 : uriE s = 0 := by
    unfold findB at h
    rw [Bool.and_eq_true] at h
    exact of_decide_eq_true h.1
  have hu : parseU s = some (uriU s) := by
    rcases uriE_cases s with ⟨_, h2, _⟩ | h2
    · exact h2
    · exact absurd h0 h2
  have hn : normU s = textU (uriU s) := by unfold normU; rw [if_pos h0]
  have hl : ¬ 4096 < (textU (uriU s)).length := by have := (text_length _ _ hu).1; omega
  have hp : parseU (normU s) = some (uriU s) := by rw [hn]; exact parse_again _ _ hu
  have he : uriE (normU s) = 0 := by unfold uriE; rw [hn, if_neg hl, ← hn, hp]
  have hq : uriU (normU s) = uriU s := by unfold uriU; rw [hn, if_neg hl, ← hn, hp]; rfl
  have hnn : normU (normU s) = normU s := by
    have e : ∀ l, normU l = if uriE l = 0 then textU (uriU l) else [] := fun _ => rfl
    rw [e (normU s), if_pos he, hq, hn]
  have h2 : findB l (normU s) = true := by
    unfold findB at h ⊢
    rw [he, hnn]
    rw [h0] at h
    exact h
  exact ⟨h2, by unfold findT; rw [h2, hnn]; rfl⟩
set_option maxRecDepth 100000 in
set_option maxHeartbeats 4000000 in
theorem allowFinds_any (A : Option Addr) (n c : Nat) (l : List ByteArray) (s more : ByteArray) (w : World) (m : Int) (hl : TsAt w A n l) (hn : n ≤ 9223372036854775807) (hA : A = none → n = 0 ∧ c = 0) (hm : w.cell? ⟨0, 0, none⟩ = some (.int .i64 m)) :
    Calls Tryd.prog 5 #[.slice A n c, .string s, .string more] w (BelB true w) := by
  have HM := Lib.hid hm
  have CL := Lib.hid (fun w' hm' => live22_any w' m hm')
  have C0 := Lib.hid (great22_any A n c l w hl hn)
  have HL := Lib.hid hl
  have HA := Lib.hid hA
  obtain ⟨i0, hi, hz0, hz1, hz2⟩ := info_parts Tryd.infoStrU
  clear hm hl hA
  by_cases hs : 300 < s.size
  · have b1 : (300 : Int) < (s.size : Int) := by omega
    go_enter Tryd.func5, Tryd.ntmps5
    go_wp2_with fail
    refine C0.out.mono ?_
    rintro e w0 ⟨b, rfl, rfl, -⟩
    cases b with
    | true =>
      go_wp2_with fail
      go_at_call 6
      refine (CL.out _ HM.out).mono ?_
      rintro e w' ⟨rfl, hb⟩
      go_wp2
      go_ret
      exact ⟨rfl, hb⟩
    | false =>
      go_wp2_with fail
      go_at_call 6
      refine (CL.out _ HM.out).mono ?_
      rintro e w' ⟨rfl, hb⟩
      go_wp2
      go_ret
      exact ⟨rfl, hb⟩
  · have b1 : ¬ (300 : Int) < (s.size : Int) := by omega
    by_cases hmo : 300 < more.size
    · have b2 : (300 : Int) < (more.size : Int) := by omega
      go_enter Tryd.func5, Tryd.ntmps5
      go_wp2_with fail
      refine C0.out.mono ?_
      rintro e w0 ⟨b, rfl, rfl, -⟩
      cases b with
      | true =>
        go_wp2_with fail
        go_at_call 6
        refine (CL.out _ HM.out).mono ?_
        rintro e w' ⟨rfl, hb⟩
        go_wp2
        go_ret
        exact ⟨rfl, hb⟩
      | false =>
        go_wp2_with fail
        go_at_call 6
        refine (CL.out _ HM.out).mono ?_
        rintro e w' ⟨rfl, hb⟩
        go_wp2
        go_ret
        exact ⟨rfl, hb⟩
    · have b2 : ¬ (300 : Int) < (more.size : Int) := by omega
      go_enter Tryd.func5, Tryd.ntmps5
      go_wp2_with fail
      refine C0.out.mono ?_
      rintro e w0 ⟨b, rfl, rfl, hsm⟩
      cases b with
      | true =>
        go_wp2_with fail
        go_at_call 6
        refine (CL.out _ HM.out).mono ?_
        rintro e w' ⟨rfl, hb⟩
        go_wp2
        go_ret
        exact ⟨rfl, hb⟩
      | false =>
        obtain ⟨h80, h300⟩ := hsm rfl
        have hlen := HL.out.1
        have HS : Hid (Shorts l) := fun x hx => Nat.le_trans (h300 x hx) (by decide)
        have HS2 : Hid (Shorts (more :: l)) := fun x hx => by
          rcases List.mem_cons.1 hx with rfl | hx
          · omega
          · exact HS.out x hx
        have hn1 : n ≤ 80 := by omega
        clear h80 h300 hlen hsm
        obtain ⟨F, hF⟩ : ∃ F, F = findB l s.data.toList := ⟨_, rfl⟩
        obtain ⟨X, hX⟩ : ∃ X, X = bS (findT l s.data.toList) := ⟨_, rfl⟩
        obtain ⟨F2, hF2⟩ : ∃ F, F = findB (more :: l) s.data.toList := ⟨_, rfl⟩
        obtain ⟨X2, hX2⟩ : ∃ X, X = bS (findT (more :: l) s.data.toList) := ⟨_, rfl⟩
        obtain ⟨K, hK⟩ : ∃ K, K = checkE l := ⟨_, rfl⟩
        have C1 := fun w' hl' hm' => afind_any A n c l s w' m hl' (by omega) HS.out hm'
        have C2 := fun w' hl' => rfind22_any A n c l s w' hl' (by omega) HS.out
        have C3 := fun w' hl' hm' => acheck_any A n c l w' m hl' (by omega) HS.out hm'
        have C4 := fun w' hl' => rcheck22_any A n c l w' hl' (by omega) HS.out
        have C5 := fun w' hm' => afind_any none 0 0 [] s w' m ⟨rfl, fun k hk => by omega⟩ (by omega) (fun x hx => by cases hx) hm'
        have C6 := fun A' c' w' hl' hm' => afind_any A' (1 + n) c' (more :: l) s w' m hl' (by omega) HS2.out hm'
        rw [← hF, ← hX] at C1 C2
        rw [← hK] at C3 C4
        rw [findB_nil, findT_no (findB_nil _)] at C5
        rw [← hF2, ← hX2] at C6
        have HX : Hid (F = true → F2 = true ∧ X2 = X) := fun h => by
          rw [hF] at h
          have := findB_more l more s.data.toList h
          rw [hF2, hX2, hX, this.1, this.2]; exact ⟨rfl, rfl⟩
        have C1 := Lib.hid C1
        have C2 := Lib.hid C2
        have C3 := Lib.hid C3
        have C4 := Lib.hid C4
        have C5 := Lib.hid C5
        have C6 := Lib.hid C6
        have HB0 := Lib.hid (Below.refl w.heap.size w)
        have HM0 := HM
        have HL0 := HL
        clear hF hX hF2 hX2 hK
        go_wp2_with fail
        go_at_call 13
        refine (C1.out _ HL0.out HM0.out).mono ?_
        rintro e w1 ⟨rfl, hb1⟩
        have HB1 := Lib.hid (HB0.out.trans (hb1.mono HB0.out.size))
        have HM1 := Lib.hid (maxlen_below HM0.out hb1)
        have HL1 := Lib.hid (HL0.out.below hb1)
        clear hb1
        go_wp2_with fail
        go_at_call 14
        refine (C2.out _ HL1.out).mono ?_
        rintro e w2 ⟨rfl, hb2⟩
        have HB2 := Lib.hid (HB1.out.trans (hb2.mono HB1.out.size))
        have HM2 := Lib.hid (maxlen_below HM1.out hb2)
        have HL2 := Lib.hid (HL1.out.below hb2)
        clear hb2
        go_wp2_with fail
        go_at_call 15
        refine (C3.out _ HL2.out HM2.out).mono ?_
        rintro e w3 ⟨rfl, hb3⟩
        have HB3 := Lib.hid (HB2.out.trans (hb3.mono HB2.out.size))
        have HM3 := Lib.hid (maxlen_below HM2.out hb3)
        have HL3 := Lib.hid (HL2.out.below hb3)
        clear hb3
        go_wp2_with fail
        go_at_call 16
        refine (C4.out _ HL3.out).mono ?_
        rintro e w4 ⟨rfl, hb4⟩
        have HB4 := Lib.hid (HB3.out.trans (hb4.mono HB3.out.size))
        have HM4 := Lib.hid (maxlen_below HM3.out hb4)
        have HL4 := Lib.hid (HL3.out.below hb4)
        clear hb4
        go_wp2_with fail
        go_at_call 13
        refine (C5.out _ HM4.out).mono ?_
        rintro e w5 ⟨rfl, hb5⟩
        have HB5 := Lib.hid (HB4.out.trans (hb5.mono HB4.out.size))
        have HM5 := Lib.hid (maxlen_below HM4.out hb5)
        have HL5 := Lib.hid (HL4.out.below hb5)
        clear hb5
        cases A with
        | none =>
          obtain ⟨e1, e2⟩ := HA.out rfl
          subst e1
          subst e2
          have hle : l = [] := List.length_eq_zero_iff.1 HL.out.1
          subst hle
          have hOWN := World.ownsRow_lit (base := w5.heap.size) (e := 9) (size := 1) w5 #[.string more] 1 (Nat.le_refl _) (by decide) rfl
          have HOWN := Lib.hid hOWN
          have HTL : Hid (TsAt (w5.alloc (.cells #[.string more] 9)) (some ⟨w5.heap.size, 0, none⟩) (1 + 0) (more :: [])) := TsAt.of_own (xs := [more]) hOWN
          have HB6 := Lib.hid (HB5.out.alloc HB5.out.size (.cells #[.string more] 9))
          have HM6 := Lib.hid (maxlen_below HM5.out ((Below.refl w5.heap.size w5).alloc (Nat.le_refl _) (.cells #[.string more] 9)))
          clear hOWN
          go_wp2_with (at_builtin; refine wpList_append_nilA _ rfl _ _ 30 rfl w5.heap.size 9 i0 Tryd.underlying30 hi hz1 (.slice (some ⟨w5.heap.size, 0, none⟩) 1 1) 1 [.string more] rfl HOWN.out rfl ?_)
          go_wp2_with fail
          go_at_call 13
          refine (C6.out _ _ _ HTL.out HM6.out).mono ?_
          rintro e w7 ⟨rfl, hb7⟩
          have HB7 := Lib.hid (HB6.out.trans (hb7.mono HB6.out.size))
          have HM7 := Lib.hid (maxlen_below HM6.out hb7)
          clear hb7
          cases F with
          | false =>
            go_wp2_with fail
            go_at_call 6
            refine (CL.out _ HM7.out).mono ?_
            rintro e w' ⟨rfl, hb⟩
            go_wp2
            go_ret
            exact ⟨rfl, HB7.out.trans (hb.mono HB7.out.size)⟩
          | true =>
            obtain ⟨e1, e2⟩ := HX.out rfl
            subst e1
            subst e2
            go_wp2_with fail
            go_at_call 6
            refine (CL.out _ HM7.out).mono ?_
            rintro e w' ⟨rfl, hb⟩
            go_wp2
            go_ret
            exact ⟨rfl, HB7.out.trans (hb.mono HB7.out.size)⟩
        | some a =>
          have hOWN := World.ownsRow_lit (base := w5.heap.size) (e := 9) (size := 1) w5 #[.string more] 1 (Nat.le_refl _) (by decide) rfl
          have hNEW : ∀ j u, (txtCells l)[j]? = some u → (w5.alloc (.cells #[.string more] 9)).cell? (a.add j) = some u := fun j u hj => by
            unfold txtCells at hj
            rw [List.getElem?_map] at hj
            obtain ⟨x, hx, rfl⟩ := Option.map_eq_some_iff.1 hj
            have hjl : j < n := by rw [← HL.out.1]; exact (List.getElem?_eq_some_iff.1 hx).1
            obtain ⟨a', x', h1, h2, _, h3⟩ := (HL5.out.below ((Below.refl w5.heap.size w5).alloc (Nat.le_refl _) (.cells #[.string more] 9))).2 j hjl
            cases h1
            rw [h2] at hx
            cases hx
            exact h3
          have HOWN := Lib.hid hOWN
          have HNEW := Lib.hid hNEW
          have HLN : Hid ((txtCells l).length = n * 1) := by show _ = _; unfold txtCells; rw [List.length_map, HL.out.1]; omega
          have H1 : Hid (∀ u ∈ txtCells l, u.oneCell' = true) := fun u hu => by
            unfold txtCells at hu
            obtain ⟨x, _, rfl⟩ := List.mem_map.1 hu
            rfl
          clear hOWN hNEW
          go_wp2_with (at_builtin; refine wpList_append_own _ rfl _ _ 30 rfl w5.heap.size 9 i0 (.string ByteArray.empty) 1 16 Tryd.underlying30 hi hz0 hz1 hz2 rfl (by decide) _ _ _ rfl HOWN.out a n c (txtCells l) rfl HLN.out HNEW.out H1.out ?c3 ?c4 ?c5 ?_)
          case c3 => unfold maxLen; omega
          case c4 => omega
          case c5 => simp
          intro v' w6 hown' hgrow _
          obtain ⟨g', c', rfl⟩ := Joins.ownsRow_form hown' (by omega)
          have HB6 := Lib.hid ((HB5.out.alloc HB5.out.size _).grown hgrow (by simp; have := HB5.out.size; omega) (fun b hb => by have := (HOWN.out.lt b hb).1; have := HB5.out.size; omega))
          have HB56 : Hid (Below w5.heap.size w5 w6) := ((Below.refl w5.heap.size w5).alloc (Nat.le_refl _) _).grown hgrow (by simp) (fun b hb => (HOWN.out.lt b hb).1)
          have HM6 := Lib.hid (maxlen_below HM5.out HB56.out)
          have HLL : Hid ((more :: l).length = 1 + n) := by show _ = _; rw [List.length_cons, HL.out.1]; omega
          have hTL : TsAt w6 (some ⟨g', 0, none⟩) (more :: l).length (more :: l) := TsAt.of_own (c := c') (base := w5.heap.size) (e := 9) (by rw [HLL.out]; exact hown')
          rw [HLL.out] at hTL
          have HTL := Lib.hid hTL
          clear hown' hgrow hTL
          go_wp2_with fail
          go_at_call 13
          refine (C6.out _ _ _ HTL.out HM6.out).mono ?_
          rintro e w7 ⟨rfl, hb7⟩
          have HB7 := Lib.hid (HB6.out.trans (hb7.mono HB6.out.size))
          have HM7 := Lib.hid (maxlen_below HM6.out hb7)
          clear hb7
          cases F with
          | false =>
            go_wp2_with fail
            go_at_call 6
            refine (CL.out _ HM7.out).mono ?_
            rintro e w' ⟨rfl, hb⟩
            go_wp2
            go_ret
            exact ⟨rfl, HB7.out.trans (hb.mono HB7.out.size)⟩
          | true =>
            obtain ⟨e1, e2⟩ := HX.out rfl
            subst e1
            subst e2
            go_wp2_with fail
            go_at_call 6
            refine (CL.out _ HM7.out).mono ?_
            rintro e w' ⟨rfl, hb⟩
            go_wp2
            go_ret
            exact ⟨rfl, HB7.out.trans (hb.mono HB7.out.size)⟩
set_option maxRecDepth 100000 in
set_option maxHeartbeats 4000000 in
theorem allowSame_any (A : Option Addr) (n c : Nat) (l : List ByteArray) (s : ByteArray) (w : World) (m : Int) (hl : TsAt w A n l) (hn : n ≤ 9223372036854775807) (hm : w.cell? ⟨0, 0, none⟩ = some (.int .i64 m)) :
    Calls Tryd.prog 4 #[.slice A n c, .string s] w (BelB true w) := by
  have HM := Lib.hid hm
  have CL := Lib.hid (fun w' hm' => live22_any w' m hm')
  have C0 := Lib.hid (great22_any A n c l w hl hn)
  have HL := Lib.hid hl
  clear hm hl
  by_cases hs : 300 < s.size
  · have b1 : (300 : Int) < (s.size : Int) := by omega
    go_enter Tryd.func4, Tryd.ntmps4
    go_wp2_with fail
    refine C0.out.mono ?_
    rintro e w0 ⟨b, rfl, rfl, -⟩
    cases b with
    | true =>
      go_wp2_with fail
      go_at_call 6
      refine (CL.out _ HM.out).mono ?_
      rintro e w' ⟨rfl, hb⟩
      go_wp2
      go_ret
      exact ⟨rfl, hb⟩
    | false =>
      go_wp2_with fail
      go_at_call 6
      refine (CL.out _ HM.out).mono ?_
      rintro e w' ⟨rfl, hb⟩
      go_wp2
      go_ret
      exact ⟨rfl, hb⟩
  · have b1 : ¬ (300 : Int) < (s.size : Int) := by omega
    go_enter Tryd.func4, Tryd.ntmps4
    go_wp2_with fail
    refine C0.out.mono ?_
    rintro e w0 ⟨b, rfl, rfl, hsm⟩
    cases b with
    | true =>
      go_wp2_with fail
      go_at_call 6
      refine (CL.out _ HM.out).mono ?_
      rintro e w' ⟨rfl, hb⟩
      go_wp2
      go_ret
      exact ⟨rfl, hb⟩
    | false =>
      obtain ⟨h80, h300⟩ := hsm rfl
      have hlen := HL.out.1
      have HS : Hid (Shorts l) := fun x hx => Nat.le_trans (h300 x hx) (by decide)
      have hn1 : n ≤ 80 := by omega
      clear h80 h300 hlen hsm
      have HB0 := Lib.hid (Below.refl w.heap.size w)
      have HM0 := HM
      have HL0 := HL
      have C1 := fun w' hl' hm' => afind_any A n c l s w' m hl' (by omega) HS.out hm'
      cases hF : findB l s.data.toList with
      | false =>
        rw [hF, findT_no hF, show bS [] = ⟨#[]⟩ from rfl] at C1
        have C1 := Lib.hid C1
        clear hF
        go_wp2_with fail
        go_at_call 13
        refine (C1.out _ HL0.out HM0.out).mono ?_
        rintro e w1 ⟨rfl, hb1⟩
        have HB1 := Lib.hid (HB0.out.trans (hb1.mono HB0.out.size))
        have HM1 := Lib.hid (maxlen_below HM0.out hb1)
        have HL1 := Lib.hid (HL0.out.below hb1)
        clear hb1
        go_wp2_with fail
        go_at_call 6
        refine (CL.out _ HM1.out).mono ?_
        rintro e w' ⟨rfl, hb⟩
        go_wp2
        go_ret
        exact ⟨rfl, HB1.out.trans (hb.mono HB1.out.size)⟩
      | true =>
        obtain ⟨e1, e2⟩ := find_same l s.data.toList (by rw [len3]; omega) hF
        obtain ⟨X, hX⟩ : ∃ X, X = bS (normU s.data.toList) := ⟨_, rfl⟩
        have hfT : bS (findT l s.data.toList) = X := by unfold findT; rw [hF, hX]; rfl
        rw [hF, hfT] at C1
        have C2 := fun w' hl' hm' => afind_any A n c l X w' m hl' (by omega) HS.out hm'
        rw [show X.data.toList = normU s.data.toList from by rw [hX]; rfl, e1, e2, ← hX] at C2
        have C1 := Lib.hid C1
        have C2 := Lib.hid C2
        clear hF e1 e2 hX hfT
        go_wp2_with fail
        go_at_call 13
        refine (C1.out _ HL0.out HM0.out).mono ?_
        rintro e w1 ⟨rfl, hb1⟩
        have HB1 := Lib.hid (HB0.out.trans (hb1.mono HB0.out.size))
        have HM1 := Lib.hid (maxlen_below HM0.out hb1)
        have HL1 := Lib.hid (HL0.out.below hb1)
        clear hb1
        go_wp2_with fail
        go_at_call 13
        refine (C2.out _ HL1.out HM1.out).mono ?_
        rintro e w2 ⟨rfl, hb2⟩
        have HB2 := Lib.hid (HB1.out.trans (hb2.mono HB1.out.size))
        have HM2 := Lib.hid (maxlen_below HM1.out hb2)
        have HL2 := Lib.hid (HL1.out.below hb2)
        clear hb2
        go_wp2_with fail
        go_at_call 6
        refine (CL.out _ HM2.out).mono ?_
        rintro e w' ⟨rfl, hb⟩
        go_wp2
        go_ret
        exact ⟨rfl, HB2.out.trans (hb.mono HB2.out.size)⟩
end Go.Proofs.YtjohlopcknofcaaDoor
