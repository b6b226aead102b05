/- The reference's At, Find, Has, Reserved, PutPi: each ends and tells something. Conditions: texts of at most 2^40 bytes. -/
import Derived.Test.YtdhgkbghlkhfeaaNameRead
import Derived.Deep.LoopGhost
namespace Go.Proofs.Ytdhgkbghlkhfeaa
set_option linter.unusedVariables false
set_option linter.unusedSimpArgs false
open Go.RowKit Go.Proofs.Ytdhgkbghlkhfeaa.UtfPlain Go.Proofs.Ytdhgkbghlkhfeaa.NamePlain
def SomeB (w : World) (e : Ending) (w' : World) : Prop := ∃ b : Bool, e = .returned (.bool b) ∧ Below w.heap.size w w'
def SomeI (w : World) (e : Ending) (w' : World) : Prop := ∃ n : Int, e = .returned (.int .i64 n) ∧ Below w.heap.size w w'
def SameB (w : World) (e : Ending) (w' : World) : Prop := ∃ b : Bool, e = .returned (.bool b) ∧ w = w'
def SameI (w : World) (e : Ending) (w' : World) : Prop := ∃ n : Int, e = .returned (.int .i64 n) ∧ w = w'
theorem SameB.some {w : World} {e : Ending} {w' : World} (h : SameB w e w') : SomeB w e w' := by obtain ⟨b, h1, rfl⟩ := h; exact ⟨b, h1, Below.refl _ _⟩
set_option maxRecDepth 100000 in
set_option maxHeartbeats 2000000 in
theorem rat_any (A : Option Addr) (n cp : Nat) (xs : List Int) (k : Nat) (s : ByteArray) (w : World) (hn : n ≤ 1099511627776) (hcp : n ≤ cp) (hcp2 : cp ≤ 9223372036854775807) (hb : BytesAt w A n xs) (hk : k ≤ n) (hs : 0 < s.size) (hs2 : s.size ≤ 1099511627776) :
    Calls Try.prog 50 #[.slice A n cp, .int .i64 k, .string s] w (SameB w) := by
  have b0 : (0 : Int) ≤ (k : Int) := by omega
  by_cases hlt : k + s.size ≤ n
  · obtain ⟨a, _, rfl, _⟩ := hb.2 k (by omega)
    have hcv := fun c' => convB w (some (a.add k)) (k + s.size - k) c' (cut xs k (k + s.size)) (hb.sub (by omega) hlt)
    rw [show k + s.size - k = s.size by omega] at hcv
    have t1 : (s.size : Int) ≤ (n : Int) - (k : Int) := by omega
    have b1 : (k : Int) ≤ (k : Int) + (s.size : Int) := by omega
    have b2 : (k : Int) + (s.size : Int) ≤ (cp : Int) := by omega
    have b3 : ¬ cp = k := by omega
    have b4 : k + s.size ≤ cp := by omega
    clear hb
    go_enter Try.func50, Try.ntmps50
    go_wp2
    go_ret
    exact ⟨_, rfl, rfl⟩
  · have t1 : ¬ (s.size : Int) ≤ (n : Int) - (k : Int) := by omega
    clear hb
    go_enter Try.func50, Try.ntmps50
    go_wp2
    go_ret
    exact ⟨_, rfl, rfl⟩
set_option maxRecDepth 100000 in
set_option maxHeartbeats 2000000 in
theorem mfind_any (A : Option Addr) (n cp : Nat) (xs : List Int) (s : ByteArray) (w : World) (hn : n ≤ 1099511627776) (hcp : n ≤ cp) (hcp2 : cp ≤ 9223372036854775807) (hb : BytesAt w A n xs) (hs : 0 < s.size) (hs2 : s.size ≤ 1099511627776) :
    Calls Try.prog 41 #[.slice A n cp, .int .i64 0, .string s] w (SameI w) := by
  have HA : Hid (∀ k, k ≤ n → Calls Try.prog 50 #[.slice A n cp, .int .i64 k, .string s] w (SameB w)) := fun k hk => rat_any A n cp xs k s w hn hcp hcp2 hb hk hs hs2
  clear hb
  go_enter Try.func41, Try.ntmps41
  go_wp2
  go_loopg [7] (n + 1) (fun g v7 wr => ∃ k : Nat, g + k = n + 1 ∧ v7 = .int .i64 k ∧ wr = w)
  case atStart => exact ⟨0, rfl, rfl, rfl⟩
  case round =>
    obtain ⟨k, hgk, rfl, rfl⟩ := hrel
    by_cases hlt : k ≤ n
    · have b1 : (k : Int) ≤ (n : Int) := by omega
      have C := Lib.hid (HA.out k hlt)
      go_wp2_with fail
      refine C.out.mono ?_
      rintro e w' ⟨b, rfl, rfl⟩
      clear C
      cases b with
      | true =>
        go_wp2
        go_ret
        exact ⟨_, rfl, rfl⟩
      | false =>
        go_wp2
        go_roundg (gk - 1)
        case measure => omega
        case rel => exact ⟨k + 1, by omega, by go_num, rfl⟩
    · have b1 : ¬ (k : Int) ≤ (n : Int) := by omega
      go_wp2
      go_ret
      exact ⟨_, rfl, rfl⟩
set_option maxRecDepth 100000 in
set_option maxHeartbeats 2000000 in
theorem rhas_any (s : ByteArray) (c : Int) (w : World) (hs : s.size ≤ 1099511627776) :
    Calls Try.prog 43 #[.string s, .int .u8 c] w (SameB w) := by
  go_enter Try.func43, Try.ntmps43
  go_wp2
  go_loopg [5] s.size (fun g v5 wr => ∃ k : Nat, g + k = s.size ∧ v5 = .int .i64 k ∧ wr = w)
  case atStart => exact ⟨0, rfl, rfl, rfl⟩
  case round =>
    obtain ⟨k, hgk, rfl, rfl⟩ := hrel
    by_cases hlt : k < s.size
    · by_cases hx : ((s[k].toNat : Int) = c)
      · have t1 : ((s[k].toNat : Int) == c) = true := by simpa using hx
        clear hx
        go_wp2
        go_ret
        exact ⟨_, rfl, rfl⟩
      · have t1 : ((s[k].toNat : Int) == c) = false := by simpa using hx
        clear hx
        go_wp2
        go_roundg (gk - 1)
        case measure => omega
        case rel => exact ⟨k + 1, by omega, by go_num, rfl⟩
    · obtain rfl : k = s.size := by omega
      go_wp2
      go_ret
      exact ⟨_, rfl, rfl⟩
set_option maxRecDepth 100000 in
set_option maxHeartbeats 2000000 in
theorem rreserved_any (s : ByteArray) (w : World) (hs : s.size ≤ 1099511627776) :
    Calls Try.prog 51 #[.string s] w (SameB w) := by
  by_cases h3 : s.size = 3
  · have i0 : 0 < s.size := by omega
    have i1 : 1 < s.size := by omega
    have i2 : 2 < s.size := by omega
    have t0 : ((s.size : Int) != 3) = false := by simp; omega
    clear h3
    go_enter Try.func51, Try.ntmps51
    go_wp2
    repeat' first | (go_ret; exact ⟨_, rfl, rfl⟩) | go_wp2
  · have t0 : ((s.size : Int) != 3) = true := by simp; omega
    go_enter Try.func51, Try.ntmps51
    go_wp2
    go_ret
    exact ⟨_, rfl, rfl⟩
def SomePi (w : World) (e : Ending) (w' : World) : Prop := ∃ (s : ByteArray) (n : Int), e = .returned (.tuple #[.string s, .int .i64 n]) ∧ Below w.heap.size w w'
set_option maxRecDepth 100000 in
set_option maxHeartbeats 4000000 in
theorem rputpi_any (s d : ByteArray) (w : World) (hs : s.size ≤ 1048576) (hd : d.size ≤ 1048576) :
    Calls Try.prog 42 #[.string s, .string d] w (SomePi w) := by
  have C0 := Lib.hid (ris_text true s w (by omega))
  go_enter Try.func42, Try.ntmps42
  go_wp2_with fail
  refine C0.out.mono ?_
  rintro e w1 ⟨rfl, hB1⟩
  have HB1 := Lib.hid hB1
  clear hB1 C0
  generalize isN (bsOf s) true = b1
  cases b1 with
  | false =>
    go_wp2
    go_ret2
    exact ⟨_, _, rfl, HB1.out⟩
  | true =>
    have C1 := Lib.hid (rreserved_any s w1 (by omega))
    go_wp2_with fail
    refine C1.out.mono ?_
    rintro e w2 ⟨b2, rfl, rfl⟩
    clear C1
    cases b2 with
    | true =>
      go_wp2
      go_ret2
      exact ⟨_, _, rfl, HB1.out⟩
    | false =>
      have hcv := Lib.run_convert_string_bytes (P := Try.prog) w1 9 61 5 d Try.underlying9 Try.underlying61 Try.underlying5
      have hg1 := grownCap_ge w1 d.size 0 5
      have hg2 := grownCap_le_maxLen w1 d.size 0 5 (by unfold maxLen; omega)
      have FN := Lib.hid (mfind_any (some ⟨w1.heap.size, 0, none⟩) d.size (grownCap w1 d.size 0 5) (bsOf d) "?>".toUTF8 _ (by omega) hg1 (by unfold maxLen at hg2; omega) (bytesWorld_bytes w1 d) (by decide) (by decide))
      have HC := Lib.hid (HB1.out.trans ((bytesWorld_below w1 d).mono HB1.out.size))
      clear hg1 hg2
      go_wp2_with fail
      refine FN.out.mono ?_
      rintro e w2 ⟨n, rfl, rfl⟩
      clear FN
      generalize hVw : Lib.bytesWorld w1 5 d = V at *
      by_cases h0 : d = ⟨#[]⟩
      · subst h0
        go_wp2
        all_goals (go_ret2; exact ⟨_, _, rfl, HC.out⟩)
      · have q0 := strEmpty_no h0
        have hpos : 0 < d.size := by
          rcases Nat.eq_zero_or_pos d.size with h | h
          · exact absurd (by apply Go.WideShapes.bytes_inj; have h' : d.data.toList.length = 0 := by rw [Array.length_toList]; exact h
                             rw [List.eq_nil_of_length_eq_zero h']) h0
          · exact h
        go_wp2
        all_goals (go_ret2; exact ⟨_, _, rfl, HC.out⟩)
end Go.Proofs.Ytdhgkbghlkhfeaa
