/- The walk of UtfTexts. Conditions: the table of forms holds what the text gives it. -/
import Derived.Test.YtflljhlbnaeebaaDoorUtfText
import Derived.Test.YtflljhlbnaeebaaDoorUtfReads
namespace Go.Proofs.YtflljhlbnaeebaaDoor
open Go.RowKit Go.Proofs.YtflljhlbnaeebaaDoor.UtfPlain
theorem own_cap {w : World} {base size n m c : Nat} {e : TypeId} {A : Option Addr} {xs : List Value} (h : w.ownsRow base e size (.slice A m c) n xs) : n ≤ c ∧ c ≤ 9223372036854775807 ∧ m = n := by
  rcases h.2 with ⟨h1, h2⟩ | ⟨g, cap, cur, h1, _, _, h3, h4, _⟩
  · cases h1; omega
  · cases h1; unfold maxLen at h4; omega
def GiveNums (base : Nat) (ys : List Int) (n : Int) (w : World) (e : Ending) (w' : World) : Prop :=
  ∃ A c, e = .returned (.tuple #[.slice A ys.length c, .int .i64 n]) ∧ w'.ownsRow base 3 1 (.slice A ys.length c) ys.length (intCells ys) ∧ Below base w w'
def GiveNone (n : Int) (w : World) (e : Ending) (w' : World) : Prop :=
  ∃ A c, e = .returned (.tuple #[.slice A 0 c, .int .i64 n]) ∧ Below w.heap.size w w'
theorem urunes_none (A : Option Addr) (len cp : Nat) (xs ys : List Int) (w : World) (hp : runes xs = (ys, none)) (hlen : len ≤ 1099511627776) (hcp : len ≤ cp) (hcp2 : cp ≤ 9223372036854775807) (hb : BytesAt w A len xs) (hf : FormsAt w) :
    Calls Tryd.prog 18 #[.slice A len cp] w (GiveNums w.heap.size ys 0 w) :=
  (runes_any A len cp xs w hlen hcp hcp2 hb hf).mono fun e w' h => by
    rw [hp] at h; obtain ⟨A, c, h1, h2, h3⟩ := h; exact ⟨A, c, h1, h2 rfl, h3⟩
theorem urunes_some (A : Option Addr) (len cp : Nat) (xs ys : List Int) (k : Nat) (w : World) (hp : runes xs = (ys, some k)) (hlen : len ≤ 1099511627776) (hcp : len ≤ cp) (hcp2 : cp ≤ 9223372036854775807) (hb : BytesAt w A len xs) (hf : FormsAt w) :
    Calls Tryd.prog 18 #[.slice A len cp] w (GiveNone 5 w) :=
  (runes_any A len cp xs w hlen hcp hcp2 hb hf).mono fun e w' h => by
    rw [hp] at h; obtain ⟨A, c, h1, h2, h3⟩ := h; exact ⟨A, c, h1, h3⟩
theorem ulen_none (A : Option Addr) (len cp : Nat) (xs ys : List Int) (w : World) (hp : runes xs = (ys, none)) (hlen : len ≤ 1099511627776) (hcp : len ≤ cp) (hcp2 : cp ≤ 9223372036854775807) (hb : BytesAt w A len xs) (hf : FormsAt w) :
    Calls Tryd.prog 19 #[.slice A len cp] w (TellCheck' ys.length 0 w) :=
  (len_any A len cp xs w hlen hcp hcp2 hb hf).mono fun e w' h => by rw [hp] at h; exact h
theorem ulen_some (A : Option Addr) (len cp : Nat) (xs ys : List Int) (k : Nat) (w : World) (hp : runes xs = (ys, some k)) (hlen : len ≤ 1099511627776) (hcp : len ≤ cp) (hcp2 : cp ≤ 9223372036854775807) (hb : BytesAt w A len xs) (hf : FormsAt w) :
    Calls Tryd.prog 19 #[.slice A len cp] w (TellCheck' 0 5 w) :=
  (len_any A len cp xs w hlen hcp hcp2 hb hf).mono fun e w' h => by rw [hp] at h; exact h
theorem rrunes_none (A : Option Addr) (len cp : Nat) (xs ys : List Int) (w : World) (hp : runes xs = (ys, none)) (hlen : len ≤ 1099511627776) (hb : BytesAt w A len xs) :
    Calls Tryd.prog 15 #[.slice A len cp] w (GiveNums w.heap.size ys (-1) w) :=
  (rrunes_any A len cp xs w hlen hb).mono fun e w' h => by
    rw [hp] at h; obtain ⟨v, h1, ⟨A, c, h2, h4⟩, h3⟩ := h; subst h2; exact ⟨A, c, h1, h4, h3⟩
theorem rrunes_some (A : Option Addr) (len cp : Nat) (xs ys : List Int) (k : Nat) (w : World) (hp : runes xs = (ys, some k)) (hlen : len ≤ 1099511627776) (hb : BytesAt w A len xs) :
    Calls Tryd.prog 15 #[.slice A len cp] w (GiveNone k w) :=
  (rrunes_any A len cp xs w hlen hb).mono fun e w' h => by
    rw [hp] at h; obtain ⟨v, h1, h2, h3⟩ := h
    have h2' : v = .slice none 0 0 := h2
    subst h2'; exact ⟨none, 0, h1, h3⟩
def GiveBytes (xs : List Int) (n : Value) (w : World) (e : Ending) (w' : World) : Prop :=
  ∃ A c, e = .returned (.tuple #[.slice A xs.length c, n]) ∧ BytesAt w' A xs.length xs ∧ xs.length ≤ c ∧ c ≤ 9223372036854775807 ∧ Below w.heap.size w w'
def GiveNo (n : Value) (w : World) (e : Ending) (w' : World) : Prop :=
  ∃ A c, e = .returned (.tuple #[.slice A 0 c, n]) ∧ Below w.heap.size w w'
theorem flat_b (l : List Int) (h : l.all isR = true) : ∀ x ∈ flat l, 0 ≤ x ∧ x ≤ 255 := by
  intro x hx
  obtain ⟨r, hr, hx⟩ := List.mem_flatMap.1 hx
  exact encL_b r (List.all_eq_true.1 h r hr) x hx
theorem utext_ok (A : Option Addr) (n cp : Nat) (l : List Int) (w : World) (ho : l.all isR = true) (hn : n ≤ 1099511627776) (hb : NumsAt w A n l) (hf : FormsAt w) :
    Calls Tryd.prog 21 #[.slice A n cp] w (GiveBytes (flat l) (.int .i64 0) w) :=
  (text_any A n cp l w hn hb hf).mono fun e w' h => by
    rw [ho] at h; obtain ⟨A, c, h1, h2, h3⟩ := h
    obtain ⟨c1, c2, _⟩ := own_cap (h2 rfl)
    exact ⟨A, c, h1, BytesAt.of_own (h2 rfl) (flat_b l ho), c1, c2, h3⟩
theorem utext_no (A : Option Addr) (n cp : Nat) (l : List Int) (w : World) (ho : l.all isR = false) (hn : n ≤ 1099511627776) (hb : NumsAt w A n l) (hf : FormsAt w) :
    Calls Tryd.prog 21 #[.slice A n cp] w (GiveNo (.int .i64 6) w) :=
  (text_any A n cp l w hn hb hf).mono fun e w' h => by
    rw [ho] at h; obtain ⟨A, c, h1, h2, h3⟩ := h; exact ⟨A, c, h1, h3⟩
theorem rtext_ok (A : Option Addr) (n cp : Nat) (l : List Int) (w : World) (ho : l.all isR = true) (hn : n ≤ 1099511627776) (hb : NumsAt w A n l) :
    Calls Tryd.prog 22 #[.slice A n cp] w (GiveBytes (flat l) (.bool true) w) :=
  (rtext_any A n cp l w hn hb).mono fun e w' h => by
    rw [ho] at h; obtain ⟨A, c, h1, h2, h3⟩ := h
    obtain ⟨c1, c2, _⟩ := own_cap (h2 rfl)
    exact ⟨A, c, h1, BytesAt.of_own (h2 rfl) (flat_b l ho), c1, c2, h3⟩
theorem rtext_no (A : Option Addr) (n cp : Nat) (l : List Int) (w : World) (ho : l.all isR = false) (hn : n ≤ 1099511627776) (hb : NumsAt w A n l) :
    Calls Tryd.prog 22 #[.slice A n cp] w (GiveNo (.bool false) w) :=
  (rtext_any A n cp l w hn hb).mono fun e w' h => by
    rw [ho] at h; obtain ⟨A, c, h1, h2, h3⟩ := h; exact ⟨A, c, h1, h3⟩
theorem scan_len2 (bs : List Int) (f i : Nat) : (scan bs f i).1.length ≤ bs.length - i := by
  induction f generalizing i with
  | zero => simp [scan]
  | succ f ih =>
    unfold scan
    split
    · split
      · simp
      · have := ih (i + (charAt bs i).2)
        simp; omega
    · simp
set_option maxRecDepth 100000 in
set_option maxHeartbeats 8000000 in
theorem texts_some_no (A : Option Addr) (n cp : Nat) (xs ys : List Int) (k : Nat) (E : Option Addr) (m cq : Nat) (ls : List Int) (w : World) (hn : n ≤ 300) (hm : m ≤ 300) (hcp : n ≤ cp) (hcp2 : cp ≤ 9223372036854775807) (hb : BytesAt w A n xs) (hf : FormsAt w) (hl : NumsAt w E m ls)
    (hp : runes xs = (ys, some k)) (ho : ls.all isR = false) :
    Calls Tryd.prog 5 #[.slice A n cp, .slice E m cq] w (TellLive w) := by
  have F := Lib.hid hf
  have B := Lib.hid hb
  have L := Lib.hid hl
  have P := Lib.hid hp
  have O := Lib.hid ho
  have hn1 : n ≤ 1099511627776 := by omega
  have hm1 : m ≤ 1099511627776 := by omega
  have t2 : decide ((k : Int) < 0) = false := by simp
  have t3 : decide (0 ≤ (k : Int)) = true := by simp
  have LL := Lib.hid hl.1
  clear hp ho hb hf hl
  go_enter Tryd.func5, Tryd.ntmps5
  go_wp2_with fail
  refine (urunes_some A n cp xs ys k _ P.out hn1 hcp hcp2 B.out F.out).mono ?_
  rintro e w1 ⟨A1, c1, rfl, hB1⟩
  go_wp2_with fail
  refine (ulen_some A n cp xs ys k _ P.out hn1 hcp hcp2 (B.out.below hB1) (F.out.below hB1 F.out.size)).mono ?_
  rintro e w2 ⟨rfl, hB2⟩
  have hC2 := hB1.trans (hB2.mono hB1.size)
  clear hB1 hB2
  go_wp2_with fail
  refine (rrunes_some A n cp xs ys k _ P.out hn1 (B.out.below hC2)).mono ?_
  rintro e w3 ⟨A3, c3, rfl, hB3⟩
  have hC3 := hC2.trans (hB3.mono hC2.size)
  clear hC2 hB3
  go_wp2_with fail
  refine (utext_no E m cq ls _ O.out hm1 (L.out.below hC3) (F.out.below hC3 F.out.size)).mono ?_
  rintro e w6 ⟨A6, c6, rfl, hB6⟩
  have hC6 := hC3.trans (hB6.mono hC3.size)
  clear hC3 hB6
  go_wp2_with fail
  refine (rtext_no E m cq ls _ O.out hm1 (L.out.below hC6)).mono ?_
  rintro e w7 ⟨A7, c7, rfl, hB7⟩
  have hC7 := hC6.trans (hB7.mono hC6.size)
  clear hC6 hB7
  go_wp2_with fail
  refine (live2_any _ (F.out.below hC7 F.out.size)).mono ?_
  rintro e wx ⟨rfl, hBx⟩
  go_wp2
  go_ret
  exact ⟨rfl, hC7.trans (hBx.mono hC7.size)⟩
set_option maxRecDepth 100000 in
set_option maxHeartbeats 8000000 in
theorem texts_some_ok (A : Option Addr) (n cp : Nat) (xs ys : List Int) (k : Nat) (E : Option Addr) (m cq : Nat) (ls : List Int) (w : World) (hn : n ≤ 300) (hm : m ≤ 300) (hcp : n ≤ cp) (hcp2 : cp ≤ 9223372036854775807) (hb : BytesAt w A n xs) (hf : FormsAt w) (hl : NumsAt w E m ls)
    (hp : runes xs = (ys, some k)) (ho : ls.all isR = true) :
    Calls Tryd.prog 5 #[.slice A n cp, .slice E m cq] w (TellLive w) := by
  have F := Lib.hid hf
  have B := Lib.hid hb
  have L := Lib.hid hl
  have P := Lib.hid hp
  have O := Lib.hid ho
  have hn1 : n ≤ 1099511627776 := by omega
  have hm1 : m ≤ 1099511627776 := by omega
  have t2 : decide ((k : Int) < 0) = false := by simp
  have t3 : decide (0 ≤ (k : Int)) = true := by simp
  have J := Lib.hid (runes_enc ls (List.all_eq_true.1 ho))
  have hfl : (flat ls).length ≤ 1099511627776 := by have := flat_len ls; rw [hl.1] at this; omega
  have LL := Lib.hid hl.1
  clear hp ho hb hf hl
  go_enter Tryd.func5, Tryd.ntmps5
  go_wp2_with fail
  refine (urunes_some A n cp xs ys k _ P.out hn1 hcp hcp2 B.out F.out).mono ?_
  rintro e w1 ⟨A1, c1, rfl, hB1⟩
  go_wp2_with fail
  refine (ulen_some A n cp xs ys k _ P.out hn1 hcp hcp2 (B.out.below hB1) (F.out.below hB1 F.out.size)).mono ?_
  rintro e w2 ⟨rfl, hB2⟩
  have hC2 := hB1.trans (hB2.mono hB1.size)
  clear hB1 hB2
  go_wp2_with fail
  refine (rrunes_some A n cp xs ys k _ P.out hn1 (B.out.below hC2)).mono ?_
  rintro e w3 ⟨A3, c3, rfl, hB3⟩
  have hC3 := hC2.trans (hB3.mono hC2.size)
  clear hC2 hB3
  go_wp2_with fail
  refine (utext_ok E m cq ls _ O.out hm1 (L.out.below hC3) (F.out.below hC3 F.out.size)).mono ?_
  rintro e w6 ⟨A6, c6, rfl, hb6, hc6, hd6, hB6⟩
  have hC6 := hC3.trans (hB6.mono hC3.size)
  clear hC3 hB6
  go_wp2_with fail
  refine (rtext_ok E m cq ls _ O.out hm1 (L.out.below hC6)).mono ?_
  rintro e w7 ⟨A7, c7, rfl, hb7, _, _, hB7⟩
  have hC7 := hC6.trans (hB7.mono hC6.size)
  have hb6' := hb6.below hB7
  clear hb6
  clear hC6 hB7
  go_wp2_with fail
  refine (urunes_none A6 _ c6 (flat ls) ls _ J.out hfl hc6 hd6 hb6' (F.out.below hC7 F.out.size)).mono ?_
  rintro e w8 ⟨A8, c8, rfl, hr8, hB8⟩
  have N8 := NumsAt.of_own hr8
  have hC8 := hC7.trans (hB8.mono hC7.size)
  have q6 := convB w8 A6 _ c6 _ (hb6'.below hB8)
  have q7 := convB w8 A7 _ c7 _ (hb7.below hB8)
  rw [LL.out] at N8 ⊢
  clear hr8 hb6' hb7 hC7 hB8
  go_wp2_with fail
  refine (ints_any A8 E _ c8 cq ls _ hm1 N8 (L.out.below hC8)).mono ?_
  rintro e w9 ⟨rfl, d2, rfl⟩
  have hC9 := hC8.trans (below2_drewN _ w8 d2)
  clear hC8 N8
  go_wp2_with fail
  refine (live2_any _ (F.out.below hC9 F.out.size)).mono ?_
  rintro e wx ⟨rfl, hBx⟩
  go_wp2
  go_ret
  exact ⟨rfl, hC9.trans (hBx.mono hC9.size)⟩
set_option maxRecDepth 100000 in
set_option maxHeartbeats 8000000 in
theorem texts_none_no (A : Option Addr) (n cp : Nat) (xs ys : List Int) (E : Option Addr) (m cq : Nat) (ls : List Int) (w : World) (hn : n ≤ 300) (hm : m ≤ 300) (hcp : n ≤ cp) (hcp2 : cp ≤ 9223372036854775807) (hb : BytesAt w A n xs) (hf : FormsAt w) (hl : NumsAt w E m ls)
    (hp : runes xs = (ys, none)) (ho : ls.all isR = false) :
    Calls Tryd.prog 5 #[.slice A n cp, .slice E m cq] w (TellLive w) := by
  have F := Lib.hid hf
  have B := Lib.hid hb
  have L := Lib.hid hl
  have P := Lib.hid hp
  have O := Lib.hid ho
  have hn1 : n ≤ 1099511627776 := by omega
  have hm1 : m ≤ 1099511627776 := by omega
  have inv := runes_inv xs (by rw [hp])
  rw [hp] at inv
  have I1 := Lib.hid (List.all_eq_true.2 inv.1)
  have I2 := Lib.hid (show flat ys = xs from inv.2)
  have hyl : ys.length ≤ n := by have := scan_len2 xs xs.length 0; rw [show scan xs xs.length 0 = (ys, none) from hp, hb.1] at this; simpa using this
  have hy1 : ys.length ≤ 1099511627776 := by omega
  clear inv
  have LL := Lib.hid hl.1
  have XL := Lib.hid hb.1
  clear hp ho hb hf hl
  go_enter Tryd.func5, Tryd.ntmps5
  go_wp2_with fail
  refine (urunes_none A n cp xs ys _ P.out hn1 hcp hcp2 B.out F.out).mono ?_
  rintro e w1 ⟨A1, c1, rfl, hr1, hB1⟩
  have N1 := NumsAt.of_own hr1
  clear hr1
  go_wp2_with fail
  refine (ulen_none A n cp xs ys _ P.out hn1 hcp hcp2 (B.out.below hB1) (F.out.below hB1 F.out.size)).mono ?_
  rintro e w2 ⟨rfl, hB2⟩
  have hC2 := hB1.trans (hB2.mono hB1.size)
  have N2 := N1.below hB2
  clear N1
  clear hB1 hB2
  go_wp2_with fail
  refine (rrunes_none A n cp xs ys _ P.out hn1 (B.out.below hC2)).mono ?_
  rintro e w3 ⟨A3, c3, rfl, hr3, hB3⟩
  have M3 := NumsAt.of_own hr3
  have N3 := N2.below hB3
  clear hr3 N2
  have hC3 := hC2.trans (hB3.mono hC2.size)
  clear hC2 hB3
  go_wp2_with fail
  refine (ints_any A1 A3 _ c1 c3 ys _ hy1 N3 M3).mono ?_
  rintro e w4 ⟨rfl, d, rfl⟩
  have hC4 := hC3.trans (below2_drewN _ w3 d)
  have N4 : NumsAt (w3.drewN d) A1 ys.length ys := N3
  clear hC3 N3 M3
  generalize w3.drewN d = w4 at *
  go_wp2_with fail
  refine (utext_ok A1 _ c1 ys _ I1.out hy1 N4 (F.out.below hC4 F.out.size)).mono ?_
  rw [I2.out]
  rintro e w5 ⟨A5, c5, rfl, hb5, _, _, hB5⟩
  have hC5 := hC4.trans (hB5.mono hC4.size)
  have q5 := convB w5 A5 _ c5 _ hb5
  have q6 := convB w5 A n cp _ (B.out.below hC5)
  clear N4 hC4 hB5 hb5
  go_wp2_with fail
  refine (utext_no E m cq ls _ O.out hm1 (L.out.below hC5) (F.out.below hC5 F.out.size)).mono ?_
  rintro e w6 ⟨A6, c6, rfl, hB6⟩
  have hC6 := hC5.trans (hB6.mono hC5.size)
  clear hC5 hB6 q5 q6
  go_wp2_with fail
  refine (rtext_no E m cq ls _ O.out hm1 (L.out.below hC6)).mono ?_
  rintro e w7 ⟨A7, c7, rfl, hB7⟩
  have hC7 := hC6.trans (hB7.mono hC6.size)
  clear hC6 hB7
  go_wp2_with fail
  refine (live2_any _ (F.out.below hC7 F.out.size)).mono ?_
  rintro e wx ⟨rfl, hBx⟩
  go_wp2
  go_ret
  exact ⟨rfl, hC7.trans (hBx.mono hC7.size)⟩
set_option maxRecDepth 100000 in
set_option maxHeartbeats 8000000 in
theorem texts_none_ok (A : Option Addr) (n cp : Nat) (xs ys : List Int) (E : Option Addr) (m cq : Nat) (ls : List Int) (w : World) (hn : n ≤ 300) (hm : m ≤ 300) (hcp : n ≤ cp) (hcp2 : cp ≤ 9223372036854775807) (hb : BytesAt w A n xs) (hf : FormsAt w) (hl : NumsAt w E m ls)
    (hp : runes xs = (ys, none)) (ho : ls.all isR = true) :
    Calls Tryd.prog 5 #[.slice A n cp, .slice E m cq] w (TellLive w) := by
  have F := Lib.hid hf
  have B := Lib.hid hb
  have L := Lib.hid hl
  have P := Lib.hid hp
  have O := Lib.hid ho
  have hn1 : n ≤ 1099511627776 := by omega
  have hm1 : m ≤ 1099511627776 := by omega
  have inv := runes_inv xs (by rw [hp])
  rw [hp] at inv
  have I1 := Lib.hid (List.all_eq_true.2 inv.1)
  have I2 := Lib.hid (show flat ys = xs from inv.2)
  have hyl : ys.length ≤ n := by have := scan_len2 xs xs.length 0; rw [show scan xs xs.length 0 = (ys, none) from hp, hb.1] at this; simpa using this
  have hy1 : ys.length ≤ 1099511627776 := by omega
  clear inv
  have J := Lib.hid (runes_enc ls (List.all_eq_true.1 ho))
  have hfl : (flat ls).length ≤ 1099511627776 := by have := flat_len ls; rw [hl.1] at this; omega
  have LL := Lib.hid hl.1
  have XL := Lib.hid hb.1
  clear hp ho hb hf hl
  go_enter Tryd.func5, Tryd.ntmps5
  go_wp2_with fail
  refine (urunes_none A n cp xs ys _ P.out hn1 hcp hcp2 B.out F.out).mono ?_
  rintro e w1 ⟨A1, c1, rfl, hr1, hB1⟩
  have N1 := NumsAt.of_own hr1
  clear hr1
  go_wp2_with fail
  refine (ulen_none A n cp xs ys _ P.out hn1 hcp hcp2 (B.out.below hB1) (F.out.below hB1 F.out.size)).mono ?_
  rintro e w2 ⟨rfl, hB2⟩
  have hC2 := hB1.trans (hB2.mono hB1.size)
  have N2 := N1.below hB2
  clear N1
  clear hB1 hB2
  go_wp2_with fail
  refine (rrunes_none A n cp xs ys _ P.out hn1 (B.out.below hC2)).mono ?_
  rintro e w3 ⟨A3, c3, rfl, hr3, hB3⟩
  have M3 := NumsAt.of_own hr3
  have N3 := N2.below hB3
  clear hr3 N2
  have hC3 := hC2.trans (hB3.mono hC2.size)
  clear hC2 hB3
  go_wp2_with fail
  refine (ints_any A1 A3 _ c1 c3 ys _ hy1 N3 M3).mono ?_
  rintro e w4 ⟨rfl, d, rfl⟩
  have hC4 := hC3.trans (below2_drewN _ w3 d)
  have N4 : NumsAt (w3.drewN d) A1 ys.length ys := N3
  clear hC3 N3 M3
  generalize w3.drewN d = w4 at *
  go_wp2_with fail
  refine (utext_ok A1 _ c1 ys _ I1.out hy1 N4 (F.out.below hC4 F.out.size)).mono ?_
  rw [I2.out]
  rintro e w5 ⟨A5, c5, rfl, hb5, _, _, hB5⟩
  have hC5 := hC4.trans (hB5.mono hC4.size)
  have q5 := convB w5 A5 _ c5 _ hb5
  have q6 := convB w5 A n cp _ (B.out.below hC5)
  clear N4 hC4 hB5 hb5
  go_wp2_with fail
  refine (utext_ok E m cq ls _ O.out hm1 (L.out.below hC5) (F.out.below hC5 F.out.size)).mono ?_
  rintro e w6 ⟨A6, c6, rfl, hb6, hc6, hd6, hB6⟩
  have hC6 := hC5.trans (hB6.mono hC5.size)
  clear hC5 hB6 q5 q6
  go_wp2_with fail
  refine (rtext_ok E m cq ls _ O.out hm1 (L.out.below hC6)).mono ?_
  rintro e w7 ⟨A7, c7, rfl, hb7, _, _, hB7⟩
  have hC7 := hC6.trans (hB7.mono hC6.size)
  have hb6' := hb6.below hB7
  clear hb6
  clear hC6 hB7
  go_wp2_with fail
  refine (urunes_none A6 _ c6 (flat ls) ls _ J.out hfl hc6 hd6 hb6' (F.out.below hC7 F.out.size)).mono ?_
  rintro e w8 ⟨A8, c8, rfl, hr8, hB8⟩
  have N8 := NumsAt.of_own hr8
  have hC8 := hC7.trans (hB8.mono hC7.size)
  have q6 := convB w8 A6 _ c6 _ (hb6'.below hB8)
  have q7 := convB w8 A7 _ c7 _ (hb7.below hB8)
  rw [LL.out] at N8 ⊢
  clear hr8 hb6' hb7 hC7 hB8
  go_wp2_with fail
  refine (ints_any A8 E _ c8 cq ls _ hm1 N8 (L.out.below hC8)).mono ?_
  rintro e w9 ⟨rfl, d2, rfl⟩
  have hC9 := hC8.trans (below2_drewN _ w8 d2)
  clear hC8 N8
  go_wp2_with fail
  refine (live2_any _ (F.out.below hC9 F.out.size)).mono ?_
  rintro e wx ⟨rfl, hBx⟩
  go_wp2
  go_ret
  exact ⟨rfl, hC9.trans (hBx.mono hC9.size)⟩
set_option maxRecDepth 100000 in
theorem texts_big (A : Option Addr) (n cp : Nat) (E : Option Addr) (m cq : Nat) (w : World) (hn : 300 < n ∨ 300 < m) (hf : FormsAt w) : Calls Tryd.prog 5 #[.slice A n cp, .slice E m cq] w (TellLive w) := by
  have F := Lib.hid hf
  by_cases h0 : 300 < n
  · clear hn
    go_enter Tryd.func5, Tryd.ntmps5
    go_wp2_with fail
    refine (live2_any _ F.out).mono ?_
    rintro e w5 ⟨rfl, hB8⟩
    go_wp2
    go_ret
    exact ⟨rfl, hB8⟩
  · have hn : 300 < m := by omega
    go_enter Tryd.func5, Tryd.ntmps5
    go_wp2_with fail
    refine (live2_any _ F.out).mono ?_
    rintro e w5 ⟨rfl, hB8⟩
    go_wp2
    go_ret
    exact ⟨rfl, hB8⟩
theorem textsLaw_any (A : Option Addr) (n cp : Nat) (xs : List Int) (E : Option Addr) (m cq : Nat) (ls : List Int) (w : World) (hcp : n ≤ cp) (hcp2 : cp ≤ 9223372036854775807) (hb : BytesAt w A n xs) (hl : NumsAt w E m ls) (hf : FormsAt w) :
    Calls Tryd.prog 5 #[.slice A n cp, .slice E m cq] w (TellLive w) := by
  by_cases h : 300 < n ∨ 300 < m
  · exact texts_big A n cp E m cq w h hf
  · obtain ⟨ys, o⟩ : ∃ ys o, runes xs = (ys, o) := ⟨_, _, rfl⟩
    obtain ⟨o, hp⟩ := o
    cases o with
    | none =>
      cases ho : ls.all isR with
      | false => exact texts_none_no A n cp xs ys E m cq ls w (by omega) (by omega) hcp hcp2 hb hf hl hp ho
      | true => exact texts_none_ok A n cp xs ys E m cq ls w (by omega) (by omega) hcp hcp2 hb hf hl hp ho
    | some k =>
      cases ho : ls.all isR with
      | false => exact texts_some_no A n cp xs ys k E m cq ls w (by omega) (by omega) hcp hcp2 hb hf hl hp ho
      | true => exact texts_some_ok A n cp xs ys k E m cq ls w (by omega) (by omega) hcp hcp2 hb hf hl hp ho
end Go.Proofs.YtflljhlbnaeebaaDoor
