/- The contracts of meter.Check, New, Deep, Wide, Work, Spend, Spent, of sat.Add and of the reference's Check. Conditions: numbers that Go can hold; rows of at most 80 texts of at most 2^20 bytes; internal/bytealg.MaxLen holds an int. -/
import Derived.Test.YtfkeceggiddlbaaGreatDoorAllowFindsLaw
import Derived.Test.YtfkeceggiddlbaaGreatDoorInts
import Derived.Test.YtfkeceggiddlbaaGreatDoorSatPlain
import Derived.WalkLawsBesides
namespace Go.Proofs.YtfkeceggiddlbaaGreatDoor
open Go.RowKit Go.Shelf Go.Proofs.YtfkeceggiddlbaaGreatDoor.CharsPlain Go.Proofs.YtfkeceggiddlbaaGreatDoor.UriPlain Go.Proofs.YtfkeceggiddlbaaGreatDoor.SatPlain
set_option linter.unusedVariables false
set_option linter.unusedSimpArgs false
theorem retI_eq {a b : Int} (h : a = b) : Ending.returned (.int .i64 a) = .returned (.int .i64 b) := by rw [h]
theorem mhold_any (a : Int) (w : World) : Calls Tryz.prog 38 #[.int .i64 a] w (RetI (holdS a) w) := by
  go_enter Tryz.func38, Tryz.ntmps38
  go_wp2
  all_goals
    go_ret
    exact ⟨retI_eq (by unfold holdS; omega), rfl⟩
set_option maxHeartbeats 400000 in
theorem madd_any (a b : Int) (w : World) (ha : a ≤ 9223372036854775807) (hb : b ≤ 9223372036854775807) :
    Calls Tryz.prog 27 #[.int .i64 a, .int .i64 b] w (RetI (addS a b) w) := by
  have h1 := holdS_b a ha
  have h2 := holdS_b b hb
  go_enter Tryz.func27, Tryz.ntmps27
  go_wp2_with (go_at_call 38; refine (mhold_any _ _).mono ?_; rintro e w' ⟨rfl, rfl⟩)
  all_goals
    go_ret
    exact ⟨retI_eq (by unfold addS cap; omega), rfl⟩
/-- May a limit not be? -/
def oddM (x : Int) : Bool := decide (x < 0) || decide (1099511627776 < x)
def ckM (a b c d e f : Int) (l : List ByteArray) : Int := if [a, b, c, d, e, f].any oddM then 2 else checkE l
theorem check1m_any (x : Int) (w : World) : Calls Tryz.prog 29 #[.int .i64 x] w (RetB (oddM x) w) := by
  rcases Int.lt_or_le x 0 with h | h
  · have e : oddM x = true := by unfold oddM; rw [decide_eq_true h]; rfl
    rw [e]
    go_enter Tryz.func29, Tryz.ntmps29
    go_wp2
    go_ret
    exact ⟨rfl, rfl⟩
  · have e : oddM x = decide (1099511627776 < x) := by unfold oddM; rw [decide_eq_false (by omega)]; rfl
    rw [e]
    go_enter Tryz.func29, Tryz.ntmps29
    go_wp2
    go_ret
    exact ⟨rfl, rfl⟩
set_option maxHeartbeats 2000000 in
theorem indexM_any (g : Nat) (cb : Array Value) (eg : ∀ args w, (callFunc g args).run Tryz.prog w = .ok (.enter g args) w) (p : Int → Bool) (A : Option Addr) (n c : Nat) (l : List Int) (w : World) (hl : IntsAt w A n l) (hn : n ≤ 9223372036854775806)
    (hp : ∀ x, Calls Tryz.prog g (#[.int .i64 x] ++ cb) w (RetB (p x) w)) :
    Calls Tryz.prog 39 #[.slice A n c, .func (.func g) #[] cb] w (RetI (findG p l) w) := by
  have L := Lib.hid hl
  have P := Lib.hid hp
  clear hl hp
  go_enter Tryz.func39, Tryz.ntmps39
  go_wp2
  go_loopw [5, 8] (fun v5 i wr => ∃ (k : Nat), k ≤ n ∧ i = .int .i64 k ∧ Hid (∀ y ∈ l.take k, p y = false) ∧ wr = w) (fun _ i _ => n - (intOf i).toNat)
  case atStart => exact ⟨0, by omega, rfl, by intro y hy; simp at hy, rfl⟩
  case round =>
    obtain ⟨k, hk, rfl, HT, rfl⟩ := hrel
    by_cases hlt : k < n
    · obtain ⟨a, x, rfl, hx, _, g0⟩ := L.out.2 k hlt
      have b0 : (0 : Int) ≤ (k : Int) := by omega
      have b1 : (k : Int) < (n : Int) := by omega
      have C := P.out x
      have X := Lib.hid hx
      clear hx
      cases hpx : p x with
      | true =>
        rw [hpx] at C
        have G := Lib.hid (findG_yes HT.out X.out hpx)
        clear hpx
        go_wp2_with fail
        refine C.mono ?_
        rintro e w' ⟨rfl, rfl⟩
        go_wp2
        go_ret
        exact ⟨by rw [G.out]; rfl, rfl⟩
      | false =>
        rw [hpx] at C
        have G := Lib.hid (snocG HT.out X.out hpx)
        clear hpx
        go_wp2_with fail
        refine C.mono ?_
        rintro e w' ⟨rfl, rfl⟩
        go_wp2
        go_roundw
        case rel => exact ⟨k + 1, by omega, by go_num, G, by first | rfl | trivial⟩
        case measure => simp [intOf]; omega
    · obtain rfl : k = n := by omega
      have G := Lib.hid (findG_no (p := p) (l := l) (by have := HT.out; rwa [← L.out.1, List.take_length] at this))
      go_wp2
      go_ret
      exact ⟨by rw [G.out]; rfl, rfl⟩
set_option maxHeartbeats 2000000 in
theorem containsM_any (g : Nat) (cb : Array Value) (eg : ∀ args w, (callFunc g args).run Tryz.prog w = .ok (.enter g args) w) (p : Int → Bool) (A : Option Addr) (n c : Nat) (l : List Int) (w : World) (hl : IntsAt w A n l) (hn : n ≤ 9223372036854775806)
    (hp : ∀ x, Calls Tryz.prog g (#[.int .i64 x] ++ cb) w (RetB (p x) w)) :
    Calls Tryz.prog 30 #[.slice A n c, .func (.func g) #[] cb] w (RetB (l.any p) w) := by
  have C := Lib.hid (indexM_any g cb eg p A n c l w hl hn hp)
  have hr := findG_range (p := p) l
  rw [hl.1] at hr
  have G := Lib.hid (findG_ge (p := p) l)
  clear hl hp
  generalize findG p l = v at *
  have h1 : (-9223372036854775808 : Int) ≤ v := by omega
  have h2 : v ≤ 9223372036854775807 := by omega
  go_enter Tryz.func30, Tryz.ntmps30
  go_wp2_with fail
  refine C.out.mono ?_
  rintro e w' ⟨rfl, rfl⟩
  go_wp2
  go_ret
  exact ⟨by rw [← G.out]; rfl, rfl⟩
theorem add_zero_at (g k : Nat) : (⟨g, 0, none⟩ : Addr).add k = ⟨g, k, none⟩ := by unfold Addr.add; split <;> simp_all
def cfgA (a b c d e f : Int) (A : Option Addr) (n cp : Nat) : Array Value := #[.int .i64 a, .int .i64 b, .int .i64 c, .int .i64 d, .int .i64 e, .int .i64 f, .slice A n cp]
def cfgV (a b c d e f : Int) (A : Option Addr) (n cp : Nat) : Value := .agg (cfgA a b c d e f A n cp)
theorem sixAt (w : World) (a b c d e f : Int) : IntsAt (w.alloc (.cells #[.int .i64 a, .int .i64 b, .int .i64 c, .int .i64 d, .int .i64 e, .int .i64 f] 3)) (some ⟨w.heap.size, 0, none⟩) 6 [a, b, c, d, e, f] :=
  IntsAt.of_own (xs := [a, b, c, d, e, f]) (c := 6) (base := w.heap.size) (e := 3) (World.ownsRow_lit (size := 1) w #[.int .i64 a, .int .i64 b, .int .i64 c, .int .i64 d, .int .i64 e, .int .i64 f] 6 (Nat.le_refl _) (by decide) rfl)
set_option maxRecDepth 100000 in
set_option maxHeartbeats 2000000 in
theorem mcheck_any (a b c d e f : Int) (A : Option Addr) (n cp : Nat) (l : List ByteArray) (w : World) (m : Int) (hl : TsAt w A n l) (hn : n ≤ 1048576) (hS : Shorts l) (hm : w.cell? ⟨0, 0, none⟩ = some (.int .i64 m)) :
    Calls Tryz.prog 21 #[cfgV a b c d e f A n cp] w (TellI (ckM a b c d e f l) w) := by
  obtain ⟨W1, hW1⟩ : ∃ W, W = w.alloc (.cells (cfgA a b c d e f A n cp) 24) := ⟨_, rfl⟩
  have hB1 : Below w.heap.size w W1 := by rw [hW1]; exact (Below.refl _ _).alloc (Nat.le_refl _) _
  obtain ⟨W2, hW2⟩ : ∃ W, W = W1.alloc (.cells #[.int .i64 a, .int .i64 b, .int .i64 c, .int .i64 d, .int .i64 e, .int .i64 f] 3) := ⟨_, rfl⟩
  have hB2 : Below w.heap.size w W2 := by rw [hW2]; exact hB1.alloc hB1.size _
  have hI : IntsAt W2 (some ⟨W1.heap.size, 0, none⟩) 6 [a, b, c, d, e, f] := by rw [hW2]; exact sixAt W1 a b c d e f
  have hs1 : W1.heap.size = w.heap.size + 1 := by rw [hW1]; simp
  have C1 := containsM_any 29 #[] (enters_of Tryz.func29 (by kernel_rfl) rfl) oddM (some ⟨W1.heap.size, 0, none⟩) 6 6 [a, b, c, d, e, f] W2 hI (by decide) (fun x => check1m_any x W2)
  have C2 := acheck_any A n cp l W2 m (hl.below hB2) hn hS (maxlen_below hm hB2)
  have HF : Hid (ckM a b c d e f l = if [a, b, c, d, e, f].any oddM then 2 else checkE l) := rfl
  have c6 : W2.cell? ⟨w.heap.size, 6, none⟩ = some (.slice A n cp) := by
    have h1 : W1.cell? ⟨w.heap.size, 6, none⟩ = some (.slice A n cp) := by rw [hW1, World.cell?_alloc_mark]; rfl
    rw [hW2, ((Below.refl W1.heap.size W1).alloc (Nat.le_refl _) _).cell (p := ⟨w.heap.size, 6, none⟩) (by show w.heap.size < W1.heap.size; omega)]; exact h1
  have HC2 := Lib.hid C2
  have HB2 := Lib.hid hB2
  have HC6 := Lib.hid c6
  rw [hs1] at C1
  generalize [a, b, c, d, e, f].any oddM = F at C1 HF
  rw [hW2, hW1] at C1
  have HC1 := Lib.hid C1
  have HW : Hid (W2 = (w.alloc (.cells (cfgA a b c d e f A n cp) 24)).alloc (.cells #[.int .i64 a, .int .i64 b, .int .i64 c, .int .i64 d, .int .i64 e, .int .i64 f] 3)) := by show _ = _; rw [hW2, hW1]
  clear hl hm hS hW1 hW2 hB1 hB2 hI hs1 C1 C2 c6
  generalize ckM a b c d e f l = X at HF ⊢
  unfold cfgV
  unfold cfgA at *
  cases F with
  | true =>
    have HX : Hid (X = 2) := HF.out
    clear HF
    go_enter Tryz.func21, Tryz.ntmps21
    go_wp2_with fail
    refine HC1.out.mono ?_
    rintro x w' ⟨rfl, hw'⟩
    rw [← HW.out] at hw'
    subst hw'
    go_wp2
    go_ret
    rw [HX.out]
    exact ⟨rfl, HB2.out⟩
  | false =>
    have HX : Hid (X = checkE l) := HF.out
    clear HF
    go_enter Tryz.func21, Tryz.ntmps21
    go_wp2_with fail
    refine HC1.out.mono ?_
    rintro x w' ⟨rfl, hw'⟩
    rw [← HW.out] at hw'
    subst hw'
    have c6 := HC6.out
    go_wp2_with fail
    refine HC2.out.mono ?_
    rintro x w3 ⟨rfl, hb3⟩
    go_wp2
    go_ret
    rw [HX.out]
    exact ⟨rfl, HB2.out.trans (hb3.mono HB2.out.size)⟩
set_option maxRecDepth 100000 in
set_option maxHeartbeats 2000000 in
theorem rmcheck_any (a b c d e f : Int) (A : Option Addr) (n cp : Nat) (l : List ByteArray) (w : World) (hl : TsAt w A n l) (hn : n ≤ 1048576) (hS : Shorts l) :
    Calls Tryz.prog 6 #[cfgV a b c d e f A n cp] w (TellI (ckM a b c d e f l) w) := by
  obtain ⟨W1, hW1⟩ : ∃ W, W = w.alloc (.cells (cfgA a b c d e f A n cp) 24) := ⟨_, rfl⟩
  have hB1 : Below w.heap.size w W1 := by rw [hW1]; exact (Below.refl _ _).alloc (Nat.le_refl _) _
  obtain ⟨W2, hW2⟩ : ∃ W, W = W1.alloc (.cells #[.int .i64 a, .int .i64 b, .int .i64 c, .int .i64 d, .int .i64 e, .int .i64 f] 3) := ⟨_, rfl⟩
  have hB2 : Below w.heap.size w W2 := by rw [hW2]; exact hB1.alloc hB1.size _
  have hI : IntsAt W2 (some ⟨W1.heap.size, 0, none⟩) 6 [a, b, c, d, e, f] := by rw [hW2]; exact sixAt W1 a b c d e f
  have hs1 : W1.heap.size = w.heap.size + 1 := by rw [hW1]; simp
  have C2 := rcheck22_any A n cp l W2 (hl.below hB2) hn hS
  have HF : Hid (ckM a b c d e f l = if [a, b, c, d, e, f].any oddM then 2 else checkE l) := rfl
  have c6 : W2.cell? ⟨w.heap.size, 6, none⟩ = some (.slice A n cp) := by
    have h1 : W1.cell? ⟨w.heap.size, 6, none⟩ = some (.slice A n cp) := by rw [hW1, World.cell?_alloc_mark]; rfl
    rw [hW2, ((Below.refl W1.heap.size W1).alloc (Nat.le_refl _) _).cell (p := ⟨w.heap.size, 6, none⟩) (by show w.heap.size < W1.heap.size; omega)]; exact h1
  rw [hs1] at hI
  have HI := Lib.hid hI
  have HC2 := Lib.hid C2
  have HB2 := Lib.hid hB2
  have HC6 := Lib.hid c6
  have HW : Hid ((w.alloc (.cells (cfgA a b c d e f A n cp) 24)).alloc (.cells #[.int .i64 a, .int .i64 b, .int .i64 c, .int .i64 d, .int .i64 e, .int .i64 f] 3) = W2) := by show _ = _; rw [hW2, hW1]
  have HLL : Hid ([a, b, c, d, e, f].length = 6) := rfl
  clear hl hS hW1 hW2 hB1 hB2 hI hs1 C2 c6
  generalize ckM a b c d e f l = X at HF ⊢
  generalize hL : [a, b, c, d, e, f] = L at HI HF HLL
  clear hL
  unfold cfgV
  unfold cfgA at *
  go_enter Tryz.func6, Tryz.ntmps6
  go_wp2
  rw [HW.out]
  go_loopw [4] (fun v4 wr => ∃ k : Nat, k ≤ 6 ∧ v4 = .int .i64 k ∧ Hid (∀ y ∈ L.take k, oddM y = false) ∧ wr = W2) (fun v4 _ => 6 - (intOf v4).toNat)
  case atStart => exact ⟨0, Nat.zero_le _, rfl, by intro y hy; simp at hy, rfl⟩
  case round =>
    obtain ⟨k, hk, rfl, HN, rfl⟩ := hrel
    by_cases hlt : k < 6
    · obtain ⟨a', x, hax, hx, _, g0⟩ := HI.out.2 k hlt
      cases hax
      rw [add_zero_at] at g0
      have b0 : (0 : Int) ≤ (k : Int) := by omega
      have b1 : (k : Int) < 6 := by omega
      by_cases h1 : x < 0
      · have HO : Hid (X = 2) := by
          show _ = _
          rw [HF.out, if_pos]
          rw [List.any_eq_true]
          exact ⟨x, List.mem_of_getElem? hx, by unfold oddM; rw [decide_eq_true h1]; rfl⟩
        clear hx
        go_wp2
        go_ret
        rw [HO.out]
        exact ⟨rfl, HB2.out⟩
      · by_cases h2 : 1099511627776 < x
        · have HO : Hid (X = 2) := by
            show _ = _
            rw [HF.out, if_pos]
            rw [List.any_eq_true]
            exact ⟨x, List.mem_of_getElem? hx, by unfold oddM; rw [decide_eq_true h2]; simp⟩
          clear hx
          go_wp2
          go_ret
          rw [HO.out]
          exact ⟨rfl, HB2.out⟩
        · have HN2 := Lib.hid (snocG (p := oddM) HN.out hx (by unfold oddM; rw [decide_eq_false h1, decide_eq_false h2]; rfl))
          clear hx HN
          go_wp2
          go_roundw
          case rel => exact ⟨k + 1, by omega, by go_num, HN2.out, trivial⟩
          case measure => simp [intOf]; omega
    · obtain rfl : k = 6 := by omega
      have HO : Hid (X = checkE l) := by
        have h1 := HN.out
        rw [← HLL.out, List.take_length] at h1
        show _ = _
        rw [HF.out, if_neg]
        rw [Bool.not_eq_true, List.any_eq_false]
        intro y hy; rw [h1 y hy]; decide
      have c6 := HC6.out
      go_wp2_with fail
      refine HC2.out.mono ?_
      rintro x w3 ⟨rfl, hb3⟩
      go_wp2
      go_ret
      rw [HO.out]
      exact ⟨rfl, HB2.out.trans (hb3.mono HB2.out.size)⟩
/-- A meter's block. -/
def MBlk (b : Nat) (n most on om deep wide doing : Int) (w : World) : Prop := w.heap[b]? = some (.cells #[.int .i64 n, .int .i64 most, .int .i64 on, .int .i64 om, .int .i64 deep, .int .i64 wide, .int .i64 doing] 59 (0, 0))
theorem MBlk.lt {b : Nat} {n most on om deep wide doing : Int} {w : World} (h : MBlk b n most on om deep wide doing w) : b < w.heap.size := (Array.getElem?_eq_some_iff.1 h).1
theorem MBlk.below {b : Nat} {n most on om deep wide doing : Int} {w w' : World} (h : MBlk b n most on om deep wide doing w) (hb : Below w.heap.size w w') : MBlk b n most on om deep wide doing w' := by
  have hl := h.lt
  unfold MBlk at *
  rw [hb.block b hl]; exact h
theorem MBlk.cells {b : Nat} {n most on om deep wide doing : Int} {w : World} (h : MBlk b n most on om deep wide doing w) : w.cell? ⟨b, 0, none⟩ = some (.int .i64 n) ∧ w.cell? ⟨b, 1, none⟩ = some (.int .i64 most) ∧ w.cell? ⟨b, 2, none⟩ = some (.int .i64 on) ∧ w.cell? ⟨b, 3, none⟩ = some (.int .i64 om) ∧ w.cell? ⟨b, 4, none⟩ = some (.int .i64 deep) ∧ w.cell? ⟨b, 5, none⟩ = some (.int .i64 wide) ∧ w.cell? ⟨b, 6, none⟩ = some (.int .i64 doing) := by
  unfold MBlk at h
  exact ⟨by rw [Lib.cell_of_heap h]; rfl, by rw [Lib.cell_of_heap h]; rfl, by rw [Lib.cell_of_heap h]; rfl, by rw [Lib.cell_of_heap h]; rfl, by rw [Lib.cell_of_heap h]; rfl, by rw [Lib.cell_of_heap h]; rfl, by rw [Lib.cell_of_heap h]; rfl⟩
theorem MBlk.free {b : Nat} {n most on om deep wide doing : Int} {w : World} (h : MBlk b n most on om deep wide doing w) (k : Nat) : w.frozen? ⟨b, k, none⟩ = false := Lib.frozen_of_heap h k
/-- meter.New tells a meter, or an error. -/
def TellMeter (k : Int) (a b c d : Int) (w : World) (e : Ending) (w' : World) : Prop := Below w.heap.size w w' ∧ ((k ≠ 0 ∧ e = .returned (.tuple #[.pointer none, .int .i64 k])) ∨ (k = 0 ∧ ∃ g, e = .returned (.tuple #[.pointer (some ⟨g, 0, none⟩), .int .i64 0]) ∧ w.heap.size ≤ g ∧ MBlk g 0 a 0 b c d 0 w'))
set_option maxRecDepth 100000 in
set_option maxHeartbeats 2000000 in
theorem mnew_any (a b c d e f : Int) (A : Option Addr) (n cp : Nat) (l : List ByteArray) (w : World) (m : Int) (hl : TsAt w A n l) (hn : n ≤ 1048576) (hS : Shorts l) (hm : w.cell? ⟨0, 0, none⟩ = some (.int .i64 m)) :
    Calls Tryz.prog 9 #[cfgV a b c d e f A n cp] w (TellMeter (ckM a b c d e f l) a b c d w) := by
  obtain ⟨W1, hW1⟩ : ∃ W, W = w.alloc (.cells (cfgA a b c d e f A n cp) 24) := ⟨_, rfl⟩
  have hB1 : Below w.heap.size w W1 := by rw [hW1]; exact (Below.refl _ _).alloc (Nat.le_refl _) _
  have hs1 : W1.heap.size = w.heap.size + 1 := by rw [hW1]; simp
  have C1 := mcheck_any a b c d e f A n cp l W1 m (hl.below hB1) hn hS (maxlen_below hm hB1)
  generalize ckM a b c d e f l = k at C1 ⊢
  have c0 : W1.cell? ⟨w.heap.size, 0, none⟩ = some (.int .i64 a) := by rw [hW1, World.cell?_alloc_mark]; rfl
  have c1 : W1.cell? ⟨w.heap.size, 1, none⟩ = some (.int .i64 b) := by rw [hW1, World.cell?_alloc_mark]; rfl
  have c2 : W1.cell? ⟨w.heap.size, 2, none⟩ = some (.int .i64 c) := by rw [hW1, World.cell?_alloc_mark]; rfl
  have c3 : W1.cell? ⟨w.heap.size, 3, none⟩ = some (.int .i64 d) := by rw [hW1, World.cell?_alloc_mark]; rfl
  have H0 := Lib.hid c0
  have H1 := Lib.hid c1
  have H2 := Lib.hid c2
  have H3 := Lib.hid c3
  have hz : w.heap.size < W1.heap.size := by omega
  have HC1 := Lib.hid C1
  have HB1 := Lib.hid hB1
  have HW1 : Hid (w.alloc (.cells (cfgA a b c d e f A n cp) 24) = W1) := hW1.symm
  clear hl hS hm hW1 hB1 hs1 C1 c0 c1 c2 c3
  unfold cfgV at *
  unfold cfgA at *
  by_cases hk : k = 0
  · subst hk
    go_enter Tryz.func9, Tryz.ntmps9
    go_wp2_with fail
    rw [HW1.out]
    refine HC1.out.mono ?_
    rintro x w2 ⟨rfl, hb2⟩
    have c0 := (hb2.cell (p := ⟨w.heap.size, 0, none⟩) hz).trans H0.out
    have c1 := (hb2.cell (p := ⟨w.heap.size, 1, none⟩) hz).trans H1.out
    have c2 := (hb2.cell (p := ⟨w.heap.size, 2, none⟩) hz).trans H2.out
    have c3 := (hb2.cell (p := ⟨w.heap.size, 3, none⟩) hz).trans H3.out
    have HB2 := Lib.hid (HB1.out.trans (hb2.mono HB1.out.size))
    clear hb2
    go_wp2
    go_ret2
    refine ⟨HB2.out.alloc HB2.out.size _, .inr ⟨rfl, _, rfl, HB2.out.size, ?_⟩⟩
    exact heap_alloc_new _ _
  · have t1 : (k == 0) = false := by simpa using hk
    have t2 : (k != 0) = true := by simpa using hk
    go_enter Tryz.func9, Tryz.ntmps9
    go_wp2_with fail
    rw [HW1.out]
    refine HC1.out.mono ?_
    rintro x w2 ⟨rfl, hb2⟩
    have HB2 := Lib.hid (HB1.out.trans (hb2.mono HB1.out.size))
    clear hb2
    go_wp2
    go_ret2
    exact ⟨HB2.out, .inl ⟨hk, rfl⟩⟩
end Go.Proofs.YtfkeceggiddlbaaGreatDoor
