/- Merged texts: ExtPlain, ExtRQuote. -/
import Derived.Test.YtbklopnpehafpaaDoorPlainA
import Derived.Test.YtbklopnpehafpaaDoorNameRead
/- What stands between quotes, as plain lists of bytes. No program in sight. -/
namespace Go.Proofs.YtbklopnpehafpaaDoor.NamePlain
open Go.Proofs.YtbklopnpehafpaaDoor.UtfPlain Go.Proofs.YtbklopnpehafpaaDoor.CharsPlain
/-- The first place from i on at which the byte c stands. -/
def nextF (bs : List Int) (c : Int) : Nat → Nat → Option Nat
  | 0, _ => none
  | f + 1, i => if bs.length ≤ i then none else if bs.getD i 0 = c then some i else nextF bs c f (i + 1)
def nextN (bs : List Int) (c : Int) (i : Nat) : Option Nat := nextF bs c (bs.length - i) i
theorem nextF_fuel (bs : List Int) (c : Int) (f g i : Nat) (hf : bs.length - i ≤ f) (hg : bs.length - i ≤ g) : nextF bs c f i = nextF bs c g i := by
  induction f generalizing g i with
  | zero =>
    cases g with
    | zero => rfl
    | succ g => simp only [nextF]; rw [if_pos (by omega)]
  | succ f ih =>
    cases g with
    | zero => simp only [nextF]; rw [if_pos (by omega)]
    | succ g =>
      simp only [nextF]
      by_cases h : bs.length ≤ i
      · rw [if_pos h, if_pos h]
      · rw [if_neg h, if_neg h, ih g (i + 1) (by omega) (by omega)]
theorem nextN_end (bs : List Int) (c : Int) (i : Nat) (h : bs.length ≤ i) : nextN bs c i = none := by
  unfold nextN
  rw [show bs.length - i = 0 by omega]; rfl
theorem nextN_yes (bs : List Int) (c : Int) (i : Nat) (hi : i < bs.length) (h : bs.getD i 0 = c) : nextN bs c i = some i := by
  unfold nextN
  obtain ⟨f, hf⟩ : ∃ f, bs.length - i = f + 1 := ⟨bs.length - i - 1, by omega⟩
  rw [hf]
  simp only [nextF]
  rw [if_neg (by omega), if_pos h]
theorem nextN_no (bs : List Int) (c : Int) (i : Nat) (hi : i < bs.length) (h : bs.getD i 0 ≠ c) : nextN bs c i = nextN bs c (i + 1) := by
  unfold nextN
  obtain ⟨f, hf⟩ : ∃ f, bs.length - i = f + 1 := ⟨bs.length - i - 1, by omega⟩
  rw [hf]
  conv => lhs; simp only [nextF]
  rw [if_neg (by omega), if_neg h]
  exact nextF_fuel bs c _ _ _ (by omega) (by omega)
/-- What stands between quotes, the place behind it, the error. -/
def quoteN (bs : List Int) (at_ : Int) : List Int × Int × Int :=
  if at_ < 0 ∨ (bs.length : Int) < at_ then ([], 0, 3)
  else if (at_ = bs.length) ∨ (bs.getD at_.toNat 0 ≠ 34 ∧ bs.getD at_.toNat 0 ≠ 39) then ([], 0, 7)
  else match nextN bs (bs.getD at_.toNat 0) (at_.toNat + 1) with
    | some i => (cut bs (at_.toNat + 1) i, (i : Int) + 1, 0)
    | none => ([], 0, 7)
def pubK (p : List Int × Option Nat) : Bool := p.2.isNone && p.1.all (isK 4)
/-- A public identifier's text between quotes. -/
def pubN (bs : List Int) (at_ : Int) : List Int × Int × Int :=
  if (quoteN bs at_).2.2 ≠ 0 then ([], 0, (quoteN bs at_).2.2)
  else if pubK (runes (quoteN bs at_).1) then quoteN bs at_ else ([], 0, 7)
end Go.Proofs.YtbklopnpehafpaaDoor.NamePlain
/- The contract of narthexref07.Quoted. Conditions: bytes that Go can hold. -/
namespace Go.Proofs.YtbklopnpehafpaaDoor
open Go.RowKit Go.Proofs.YtbklopnpehafpaaDoor.UtfPlain Go.Proofs.YtbklopnpehafpaaDoor.NamePlain
set_option linter.unusedVariables false
set_option linter.unusedSimpArgs false
theorem quoteN_out (bs : List Int) (at_ : Int) (h : at_ < 0 ∨ (bs.length : Int) < at_) : quoteN bs at_ = ([], 0, 3) := by unfold quoteN; rw [if_pos h]
theorem quoteN_end (bs : List Int) : quoteN bs (bs.length : Int) = ([], 0, 7) := by unfold quoteN; rw [if_neg (by omega), if_pos (.inl rfl)]
theorem quoteN_bad (bs : List Int) (i : Nat) (hi : i < bs.length) (h1 : bs.getD i 0 ≠ 34) (h2 : bs.getD i 0 ≠ 39) : quoteN bs (i : Int) = ([], 0, 7) := by
  unfold quoteN; rw [if_neg (by omega), if_pos (.inr ⟨by rw [Int.toNat_natCast]; exact h1, by rw [Int.toNat_natCast]; exact h2⟩)]
theorem quoteN_yes (bs : List Int) (i : Nat) (hi : i < bs.length) (h : bs.getD i 0 = 34 ∨ bs.getD i 0 = 39) : quoteN bs (i : Int) = match nextN bs (bs.getD i 0) (i + 1) with
    | some k => (cut bs (i + 1) k, (k : Int) + 1, 0)
    | none => ([], 0, 7) := by
  unfold quoteN; rw [if_neg (by omega), if_neg (by rw [Int.toNat_natCast]; rintro (h1 | ⟨h1, h2⟩) <;> omega), Int.toNat_natCast]; try rfl
set_option maxRecDepth 100000 in
set_option maxHeartbeats 4000000 in
theorem rquoted_any (A : Option Addr) (n cp : Nat) (at_ : Int) (xs : List Int) (w : World) (hn : n ≤ 140737488355328) (hcp : n ≤ cp) (hcp2 : cp ≤ 9223372036854775807) (hb : BytesAt w A n xs) :
    Calls Tryd.prog 32 #[.slice A n cp, .int .i64 at_] w (TellRead (quoteN xs at_) w) := by
  have hl := hb.1
  by_cases h0 : at_ < 0
  · have HF := Lib.hid (quoteN_out xs at_ (.inl h0))
    clear hb
    go_enter Tryd.func32, Tryd.ntmps32
    go_wp2
    go_ret3
    rw [HF.out]
    exact ⟨rfl, Below.refl _ _⟩
  · by_cases h1 : (n : Int) < at_
    · have HF := Lib.hid (quoteN_out xs at_ (.inr (by omega)))
      clear hb hl
      go_enter Tryd.func32, Tryd.ntmps32
      go_wp2
      go_ret3
      rw [HF.out]
      exact ⟨rfl, Below.refl _ _⟩
    · obtain ⟨j, rfl⟩ : ∃ j : Nat, at_ = j := ⟨at_.toNat, by omega⟩
      by_cases h2 : j = n
      · subst h2
        have HF : Hid (quoteN xs (j : Int) = ([], 0, 7)) := by show _ = _; rw [← hl]; exact quoteN_end xs
        clear hb hl
        go_enter Tryd.func32, Tryd.ntmps32
        go_wp2
        go_ret3
        rw [HF.out]
        exact ⟨rfl, Below.refl _ _⟩
      · have hj : j < n := by omega
        obtain ⟨a, c, rfl, hx, hc0, hc1, hab, hcell⟩ := hb.2 j hj
        have hg : xs.getD j 0 = c := by rw [List.getD_eq_getElem?_getD, hx]; rfl
        have b0 : (0 : Int) ≤ (j : Int) := by omega
        have b1 : (j : Int) < (n : Int) := by omega
        have t1 : ((j : Int) == (n : Int)) = false := by rw [beq_eq_false_iff_ne]; omega
        have HB := Lib.hid hb
        by_cases hq : c = 34 ∨ c = 39
        · have HY := Lib.hid (quoteN_yes xs j (by omega) (by rw [hg]; exact hq))
          rw [hg] at HY
          obtain ⟨q, hqq⟩ : ∃ q, q = quoteN xs (j : Int) := ⟨_, rfl⟩
          rw [← hqq] at HY ⊢
          have T : ((c != 34) = false ∧ (c == 34) = true) ∨ ((c != 34) = true ∧ (c == 34) = false ∧ (c != 39) = false ∧ (c == 39) = true) := by
            rcases hq with rfl | rfl
            · left; exact ⟨rfl, rfl⟩
            · right; exact ⟨rfl, rfl, rfl, rfl⟩
          have HL := Lib.hid hl
          clear hb hl hx hqq hg hq
          rcases T with ⟨u1, u2⟩ | ⟨u1, u2, u3, u4⟩
          all_goals
            go_enter Tryd.func32, Tryd.ntmps32
            go_wp2
            go_loopw [7] (fun v7 wr => ∃ (i d : Nat), j + 1 ≤ i ∧ i ≤ n ∧ v7 = .int .i64 i ∧ Hid (nextN xs c (j + 1) = nextN xs c i) ∧ wr = w.drewN d) (fun v7 _ => n - (intOf v7).toNat)
            case atStart => exact ⟨j + 1, 0, Nat.le_refl _, by omega, by go_num, rfl, rfl⟩
            case round =>
              obtain ⟨i, d, hi1, hi2, rfl, HI, rfl⟩ := hrel
              by_cases hlt : i < n
              · obtain ⟨a', y, ha', hy, hy0, hy1, _, hcy⟩ := HB.out.2 i hlt
                cases ha'
                have hgy : xs.getD i 0 = y := by rw [List.getD_eq_getElem?_getD, hy]; rfl
                have e0 : (0 : Int) ≤ (i : Int) := by omega
                have e1 : (i : Int) < (n : Int) := by omega
                have hil : i < xs.length := by rw [HL.out]; exact hlt
                by_cases hyc : y = c
                · have HR : Hid (q = (cut xs (j + 1) i, (i : Int) + 1, 0)) := by
                    show _ = _
                    rw [HY.out, HI.out, nextN_yes xs c i hil (by rw [hgy]; exact hyc)]
                  have hcv := fun w' c' (h : BytesAt w' (some (a.add (j + 1))) (i - (j + 1)) (cut xs (j + 1) i)) => convB w' (some (a.add (j + 1))) (i - (j + 1)) c' (cut xs (j + 1) i) h
                  have CV := Lib.hid hcv
                  have t2 : (y == c) = true := by simpa using hyc
                  have hsub := HB.out.sub (i := j + 1) (j := i) (by omega) (by omega)
                  have q1 : ∀ d' c', (convert 22 9 (.slice (some (a.add (j + 1))) (i - (j + 1)) c')).run Tryd.prog (w.drewN d') = .ok (.string (strOfNums (cut xs (j + 1) i))) (w.drewN d') := fun d' c' => CV.out _ c' (hsub.drewN d')
                  clear hy hgy hyc hil hsub hcv
                  go_wp2_with fail
                  go_quiet (fail)
                  have c1 : (j : Int) + 1 ≤ (i : Int) := by omega
                  have c2 : (i : Int) ≤ (cp : Int) := by omega
                  have c3 : ¬ cp = j + 1 := by omega
                  have c4 : i ≤ cp := by omega
                  have c5 : (0 : Int) ≤ (j : Int) + 1 := by omega
                  have ha : a.add (j + 1) = ⟨a.block, a.off + (j + 1), none⟩ := by unfold Addr.add; rw [if_neg (by omega)]
                  have q2 := fun c' => q1 (d + nq) c'
                  rw [ha] at q2
                  clear q1 ha
                  go_wp2
                  go_ret3
                  rw [HR.out]
                  exact ⟨rfl, below_drewN (Below.refl _ _) _⟩
                · have HI2 : Hid (nextN xs c (j + 1) = nextN xs c (i + 1)) := by
                    show _ = _
                    rw [HI.out, nextN_no xs c i hil (by rw [hgy]; exact hyc)]
                  have t2 : (y == c) = false := by simpa using hyc
                  clear hy hgy hyc hil
                  go_wp2_with fail
                  go_quiet (fail)
                  go_wp2
                  go_roundw
                  case rel => exact ⟨i + 1, _, by omega, by omega, by go_num, HI2.out, rfl⟩
                  case measure => simp [intOf]; omega
              · obtain rfl : i = n := by omega
                have HR : Hid (q = ([], 0, 7)) := by
                  show _ = _
                  rw [HY.out, HI.out, nextN_end xs c i (by rw [HL.out]; exact Nat.le_refl _)]
                go_wp2
                go_ret3
                rw [HR.out]
                exact ⟨rfl, below_drewN (Below.refl _ _) _⟩
        · have HF : Hid (quoteN xs (j : Int) = ([], 0, 7)) := quoteN_bad xs j (by omega) (by rw [hg]; omega) (by rw [hg]; omega)
          have u1 : (c != 34) = true := by simp; omega
          have u2 : (c != 39) = true := by simp; omega
          clear hb hl hx hg hq HB
          go_enter Tryd.func32, Tryd.ntmps32
          go_wp2
          go_ret3
          rw [HF.out]
          exact ⟨rfl, Below.refl _ _⟩
end Go.Proofs.YtbklopnpehafpaaDoor
