/- The walk of UtfReads. Conditions: the table of forms holds what the text gives it. -/
import Derived.Test.YtflljhlbnaeebaaDoorUtfLive
namespace Go.Proofs.YtflljhlbnaeebaaDoor
open Go.RowKit Go.Proofs.YtflljhlbnaeebaaDoor.UtfPlain
def placeOf (p : List Int × Option Nat) : Int := match p.2 with | some i => (i : Int) | none => -1
def TellPlace (p : Int) (w : World) (e : Ending) (w' : World) : Prop := ∃ v, e = .returned (.tuple #[v, .int .i64 p]) ∧ Below w.heap.size w w'
theorem rrunes_place (A : Option Addr) (n cp : Nat) (xs : List Int) (w : World) (hn : n ≤ 1099511627776) (hb : BytesAt w A n xs) :
    Calls Tryd.prog 15 #[.slice A n cp] w (TellPlace (placeOf (runes xs)) w) :=
  (rrunes_any A n cp xs w hn hb).mono fun _ _ ⟨v, h1, _, h3⟩ => ⟨v, h1, h3⟩
def checkOf (n : Nat) (p : Option Nat) : Int := match p with | some i => (i : Int) | none => (n : Int)
def faultOf (p : Option Nat) : Int := match p with | some _ => 5 | none => 0
def TellCheck' (k f : Int) (w : World) (e : Ending) (w' : World) : Prop := e = .returned (.tuple #[.int .i64 k, .int .i64 f]) ∧ Below w.heap.size w w'
theorem check_place (A : Option Addr) (n cp : Nat) (xs : List Int) (w : World) (hlen : n ≤ 1099511627776) (hcp : n ≤ cp) (hcp2 : cp ≤ 9223372036854775807) (hb : BytesAt w A n xs) (hf : FormsAt w) :
    Calls Tryd.prog 16 #[.slice A n cp] w (TellCheck' (checkOf n (runes xs).2) (faultOf (runes xs).2) w) :=
  (check_any A n cp xs w (by omega) hcp hcp2 hb hf).mono fun _ _ h => h
def TellDecode' (r next e : Int) (w : World) (x : Ending) (w' : World) : Prop := x = .returned (.tuple #[.int .i64 r, .int .i64 next, .int .i64 e]) ∧ Below w.heap.size w w'
set_option maxRecDepth 100000 in
set_option maxHeartbeats 4000000 in
theorem reads_in (A : Option Addr) (n cp i : Nat) (xs : List Int) (w : World) (hn : n ≤ 300) (hcp : n ≤ cp) (hcp2 : cp ≤ 9223372036854775807) (hb : BytesAt w A n xs) (hf : FormsAt w) (hi : i < n) :
    Calls Tryd.prog 4 #[.slice A n cp, .int .i64 i] w (TellLive w) := by
  have F := Lib.hid hf
  have B := Lib.hid hb
  have hc4 := charAt_size xs i
  have hn1 : n ≤ 1099511627776 := by omega
  have hn2 : n ≤ 140737488355328 := by omega
  generalize hp : charAt xs i = p at *
  have HP := Lib.hid hp
  obtain ⟨r, m⟩ := p
  simp only at hc4
  cases hq : (runes xs).2 with
  | none =>
    have Q1 := Lib.hid (show placeOf (runes xs) = -1 by unfold placeOf; rw [hq])
    have Q2 := Lib.hid (show checkOf n (runes xs).2 = n by unfold checkOf; rw [hq])
    have Q3 := Lib.hid (show faultOf (runes xs).2 = 0 by unfold faultOf; rw [hq])
    clear hq hp hf hb
    by_cases hm : m = 0
    · subst hm
      go_enter Tryd.func4, Tryd.ntmps4
      go_wp2_with fail
      refine (decode_any A n cp i xs _ hn2 hcp hcp2 B.out F.out hi).mono ?_
      rintro e w' ⟨rfl, d, rfl⟩
      rw [HP.out]
      simp only [if_true]
      have hB1 := below2_drewN w.heap.size w d
      go_wp2_with fail
      refine (rrunes_place A n cp xs _ hn1 (B.out.drewN d)).mono ?_
      rintro e w2 ⟨v, rfl, hB2⟩
      rw [Q1.out]
      have hB3 := hB1.trans hB2
      clear hB2
      go_wp2_with fail
      refine (check_place A n cp xs _ hn1 hcp hcp2 (B.out.below hB3) (F.out.below hB3 F.out.size)).mono ?_
      rintro e w3 ⟨rfl, hB4⟩
      rw [Q2.out, Q3.out]
      have hB5 := hB3.trans (hB4.mono hB3.size)
      clear hB3 hB4
      go_wp2_with fail
      refine (rchar2_any A n cp i xs _ hn2 (B.out.below hB5) hi).mono ?_
      rintro e w4 ⟨rfl, hB6⟩
      rw [HP.out]
      have hB7 := hB5.trans (hB6.mono hB5.size)
      clear hB5 hB6
      go_wp2_with fail
      refine (live2_any _ (F.out.below hB7 F.out.size)).mono ?_
      rintro e w5 ⟨rfl, hB8⟩
      go_wp2
      go_ret
      exact ⟨rfl, hB7.trans (hB8.mono hB7.size)⟩
    · have t1 : ((m : Int) == 0) = false := by simp; omega
      have s1 : IntKind.i64.wrap ((i : Int) + m) = (i : Int) + m := IntWalk.i64_in _ (by omega)
      go_enter Tryd.func4, Tryd.ntmps4
      go_wp2_with fail
      refine (decode_any A n cp i xs _ hn2 hcp hcp2 B.out F.out hi).mono ?_
      rintro e w' ⟨rfl, d, rfl⟩
      rw [HP.out]
      simp only [if_neg hm]
      have hB1 := below2_drewN w.heap.size w d
      go_wp2_with fail
      refine (rrunes_place A n cp xs _ hn1 (B.out.drewN d)).mono ?_
      rintro e w2 ⟨v, rfl, hB2⟩
      rw [Q1.out]
      have hB3 := hB1.trans hB2
      clear hB2
      go_wp2_with fail
      refine (check_place A n cp xs _ hn1 hcp hcp2 (B.out.below hB3) (F.out.below hB3 F.out.size)).mono ?_
      rintro e w3 ⟨rfl, hB4⟩
      rw [Q2.out, Q3.out]
      have hB5 := hB3.trans (hB4.mono hB3.size)
      clear hB3 hB4
      go_wp2_with fail
      refine (rchar2_any A n cp i xs _ hn2 (B.out.below hB5) hi).mono ?_
      rintro e w4 ⟨rfl, hB6⟩
      rw [HP.out]
      have hB7 := hB5.trans (hB6.mono hB5.size)
      clear hB5 hB6
      go_wp2_with fail
      refine (live2_any _ (F.out.below hB7 F.out.size)).mono ?_
      rintro e w5 ⟨rfl, hB8⟩
      go_wp2
      go_ret
      exact ⟨rfl, hB7.trans (hB8.mono hB7.size)⟩
  | some k =>
    have Q1 := Lib.hid (show placeOf (runes xs) = k by unfold placeOf; rw [hq])
    have Q2 := Lib.hid (show checkOf n (runes xs).2 = k by unfold checkOf; rw [hq])
    have Q3 := Lib.hid (show faultOf (runes xs).2 = 5 by unfold faultOf; rw [hq])
    have t2 : decide ((k : Int) < 0) = false := by simp
    clear hq hp hf hb
    by_cases hm : m = 0
    · subst hm
      go_enter Tryd.func4, Tryd.ntmps4
      go_wp2_with fail
      refine (decode_any A n cp i xs _ hn2 hcp hcp2 B.out F.out hi).mono ?_
      rintro e w' ⟨rfl, d, rfl⟩
      rw [HP.out]
      simp only [if_true]
      have hB1 := below2_drewN w.heap.size w d
      go_wp2_with fail
      refine (rrunes_place A n cp xs _ hn1 (B.out.drewN d)).mono ?_
      rintro e w2 ⟨v, rfl, hB2⟩
      rw [Q1.out]
      have hB3 := hB1.trans hB2
      clear hB2
      go_wp2_with fail
      refine (check_place A n cp xs _ hn1 hcp hcp2 (B.out.below hB3) (F.out.below hB3 F.out.size)).mono ?_
      rintro e w3 ⟨rfl, hB4⟩
      rw [Q2.out, Q3.out]
      have hB5 := hB3.trans (hB4.mono hB3.size)
      clear hB3 hB4
      go_wp2_with fail
      refine (rchar2_any A n cp i xs _ hn2 (B.out.below hB5) hi).mono ?_
      rintro e w4 ⟨rfl, hB6⟩
      rw [HP.out]
      have hB7 := hB5.trans (hB6.mono hB5.size)
      clear hB5 hB6
      go_wp2_with fail
      refine (live2_any _ (F.out.below hB7 F.out.size)).mono ?_
      rintro e w5 ⟨rfl, hB8⟩
      go_wp2
      go_ret
      exact ⟨rfl, hB7.trans (hB8.mono hB7.size)⟩
    · have t1 : ((m : Int) == 0) = false := by simp; omega
      have s1 : IntKind.i64.wrap ((i : Int) + m) = (i : Int) + m := IntWalk.i64_in _ (by omega)
      go_enter Tryd.func4, Tryd.ntmps4
      go_wp2_with fail
      refine (decode_any A n cp i xs _ hn2 hcp hcp2 B.out F.out hi).mono ?_
      rintro e w' ⟨rfl, d, rfl⟩
      rw [HP.out]
      simp only [if_neg hm]
      have hB1 := below2_drewN w.heap.size w d
      go_wp2_with fail
      refine (rrunes_place A n cp xs _ hn1 (B.out.drewN d)).mono ?_
      rintro e w2 ⟨v, rfl, hB2⟩
      rw [Q1.out]
      have hB3 := hB1.trans hB2
      clear hB2
      go_wp2_with fail
      refine (check_place A n cp xs _ hn1 hcp hcp2 (B.out.below hB3) (F.out.below hB3 F.out.size)).mono ?_
      rintro e w3 ⟨rfl, hB4⟩
      rw [Q2.out, Q3.out]
      have hB5 := hB3.trans (hB4.mono hB3.size)
      clear hB3 hB4
      go_wp2_with fail
      refine (rchar2_any A n cp i xs _ hn2 (B.out.below hB5) hi).mono ?_
      rintro e w4 ⟨rfl, hB6⟩
      rw [HP.out]
      have hB7 := hB5.trans (hB6.mono hB5.size)
      clear hB5 hB6
      go_wp2_with fail
      refine (live2_any _ (F.out.below hB7 F.out.size)).mono ?_
      rintro e w5 ⟨rfl, hB8⟩
      go_wp2
      go_ret
      exact ⟨rfl, hB7.trans (hB8.mono hB7.size)⟩
set_option maxRecDepth 100000 in
set_option maxHeartbeats 4000000 in
theorem reads_out (A : Option Addr) (n cp : Nat) (i : Int) (xs : List Int) (w : World) (hn : n ≤ 300) (hcp : n ≤ cp) (hcp2 : cp ≤ 9223372036854775807) (hb : BytesAt w A n xs) (hf : FormsAt w) (hi : i < 0 ∨ (n : Int) ≤ i) :
    Calls Tryd.prog 4 #[.slice A n cp, .int .i64 i] w (TellLive w) := by
  have F := Lib.hid hf
  have B := Lib.hid hb
  have H := Lib.hid hi
  have hn1 : n ≤ 1099511627776 := by omega
  cases hq : (runes xs).2 with
  | none =>
    have Q1 := Lib.hid (show placeOf (runes xs) = -1 by unfold placeOf; rw [hq])
    have Q2 := Lib.hid (show checkOf n (runes xs).2 = n by unfold checkOf; rw [hq])
    have Q3 := Lib.hid (show faultOf (runes xs).2 = 0 by unfold faultOf; rw [hq])
    clear hq hf hb
    rcases hi with hi | hi
    · have t4 : decide (i < 0) = true := by simp; omega
      go_enter Tryd.func4, Tryd.ntmps4
      go_wp2_with fail
      refine (decode_out A n cp i _ H.out).mono ?_
      rintro e w' ⟨rfl, rfl⟩
      go_wp2_with fail
      refine (rrunes_place A n cp xs _ hn1 (B.out)).mono ?_
      rintro e w2 ⟨v, rfl, hB2⟩
      rw [Q1.out]
      have hB3 := hB2
      clear hB2
      go_wp2_with fail
      refine (check_place A n cp xs _ hn1 hcp hcp2 (B.out.below hB3) (F.out.below hB3 F.out.size)).mono ?_
      rintro e w3 ⟨rfl, hB4⟩
      rw [Q2.out, Q3.out]
      have hB5 := hB3.trans (hB4.mono hB3.size)
      clear hB3 hB4
      go_wp2_with fail
      refine (live2_any _ (F.out.below hB5 F.out.size)).mono ?_
      rintro e w5 ⟨rfl, hB8⟩
      go_wp2
      go_ret
      exact ⟨rfl, hB5.trans (hB8.mono hB5.size)⟩
    · have t4 : decide (i < 0) = false := by simp; omega
      go_enter Tryd.func4, Tryd.ntmps4
      go_wp2_with fail
      refine (decode_out A n cp i _ H.out).mono ?_
      rintro e w' ⟨rfl, rfl⟩
      go_wp2_with fail
      refine (rrunes_place A n cp xs _ hn1 (B.out)).mono ?_
      rintro e w2 ⟨v, rfl, hB2⟩
      rw [Q1.out]
      have hB3 := hB2
      clear hB2
      go_wp2_with fail
      refine (check_place A n cp xs _ hn1 hcp hcp2 (B.out.below hB3) (F.out.below hB3 F.out.size)).mono ?_
      rintro e w3 ⟨rfl, hB4⟩
      rw [Q2.out, Q3.out]
      have hB5 := hB3.trans (hB4.mono hB3.size)
      clear hB3 hB4
      go_wp2_with fail
      refine (live2_any _ (F.out.below hB5 F.out.size)).mono ?_
      rintro e w5 ⟨rfl, hB8⟩
      go_wp2
      go_ret
      exact ⟨rfl, hB5.trans (hB8.mono hB5.size)⟩
  | some k =>
    have Q1 := Lib.hid (show placeOf (runes xs) = k by unfold placeOf; rw [hq])
    have Q2 := Lib.hid (show checkOf n (runes xs).2 = k by unfold checkOf; rw [hq])
    have Q3 := Lib.hid (show faultOf (runes xs).2 = 5 by unfold faultOf; rw [hq])
    have t2 : decide ((k : Int) < 0) = false := by simp
    clear hq hf hb
    rcases hi with hi | hi
    · have t4 : decide (i < 0) = true := by simp; omega
      go_enter Tryd.func4, Tryd.ntmps4
      go_wp2_with fail
      refine (decode_out A n cp i _ H.out).mono ?_
      rintro e w' ⟨rfl, rfl⟩
      go_wp2_with fail
      refine (rrunes_place A n cp xs _ hn1 (B.out)).mono ?_
      rintro e w2 ⟨v, rfl, hB2⟩
      rw [Q1.out]
      have hB3 := hB2
      clear hB2
      go_wp2_with fail
      refine (check_place A n cp xs _ hn1 hcp hcp2 (B.out.below hB3) (F.out.below hB3 F.out.size)).mono ?_
      rintro e w3 ⟨rfl, hB4⟩
      rw [Q2.out, Q3.out]
      have hB5 := hB3.trans (hB4.mono hB3.size)
      clear hB3 hB4
      go_wp2_with fail
      refine (live2_any _ (F.out.below hB5 F.out.size)).mono ?_
      rintro e w5 ⟨rfl, hB8⟩
      go_wp2
      go_ret
      exact ⟨rfl, hB5.trans (hB8.mono hB5.size)⟩
    · have t4 : decide (i < 0) = false := by simp; omega
      go_enter Tryd.func4, Tryd.ntmps4
      go_wp2_with fail
      refine (decode_out A n cp i _ H.out).mono ?_
      rintro e w' ⟨rfl, rfl⟩
      go_wp2_with fail
      refine (rrunes_place A n cp xs _ hn1 (B.out)).mono ?_
      rintro e w2 ⟨v, rfl, hB2⟩
      rw [Q1.out]
      have hB3 := hB2
      clear hB2
      go_wp2_with fail
      refine (check_place A n cp xs _ hn1 hcp hcp2 (B.out.below hB3) (F.out.below hB3 F.out.size)).mono ?_
      rintro e w3 ⟨rfl, hB4⟩
      rw [Q2.out, Q3.out]
      have hB5 := hB3.trans (hB4.mono hB3.size)
      clear hB3 hB4
      go_wp2_with fail
      refine (live2_any _ (F.out.below hB5 F.out.size)).mono ?_
      rintro e w5 ⟨rfl, hB8⟩
      go_wp2
      go_ret
      exact ⟨rfl, hB5.trans (hB8.mono hB5.size)⟩
set_option maxRecDepth 100000 in
theorem reads_big (A : Option Addr) (n cp : Nat) (i : Int) (w : World) (hn : 300 < n) (hf : FormsAt w) : Calls Tryd.prog 4 #[.slice A n cp, .int .i64 i] w (TellLive w) := by
  have F := Lib.hid hf
  go_enter Tryd.func4, Tryd.ntmps4
  go_wp2_with fail
  refine (live2_any _ F.out).mono ?_
  rintro e w5 ⟨rfl, hB8⟩
  go_wp2
  go_ret
  exact ⟨rfl, hB8⟩
theorem reads_any (A : Option Addr) (n cp : Nat) (i : Int) (xs : List Int) (w : World) (hcp : n ≤ cp) (hcp2 : cp ≤ 9223372036854775807) (hb : BytesAt w A n xs) (hf : FormsAt w) :
    Calls Tryd.prog 4 #[.slice A n cp, .int .i64 i] w (TellLive w) := by
  rcases Nat.lt_or_ge 300 n with h | h
  · exact reads_big A n cp i w h hf
  · by_cases hi : i < 0 ∨ (n : Int) ≤ i
    · exact reads_out A n cp i xs w h hcp hcp2 hb hf hi
    · obtain ⟨k, rfl⟩ := Int.eq_ofNat_of_zero_le (show 0 ≤ i by omega)
      exact reads_in A n cp k xs w h hcp hcp2 hb hf (by omega)
end Go.Proofs.YtflljhlbnaeebaaDoor
