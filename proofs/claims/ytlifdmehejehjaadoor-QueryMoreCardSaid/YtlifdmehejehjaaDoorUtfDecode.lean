/- The contract of utf.Decode: one character at a place. Conditions: the table of forms holds what the text gives it; bytes read as numbers from 0 to 255. -/
import Derived.Test.YtlifdmehejehjaaDoorUtfBits
import Derived.Test.YtlifdmehejehjaaDoorUtfChar
import Derived.Deep.QuietTactic
import Derived.BigQuiet
namespace Go.Proofs.YtlifdmehejehjaaDoor
open Go.RowKit Go.Proofs.YtlifdmehejehjaaDoor.UtfPlain
/-- The cells of the table of forms. -/
def formCells : List Value := [.int .u8 0, .int .u8 0, .int .i64 0, .int .u8 0, .int .u8 127, .int .i64 0, .int .u8 192, .int .u8 31, .int .i64 128, .int .u8 224, .int .u8 15, .int .i64 2048, .int .u8 240, .int .u8 7, .int .i64 65536]
structure FormsAt (w : World) : Prop where
  cell : ∀ i v, formCells[i]? = some v → w.cell? ⟨5, i, none⟩ = some v
  size : 5 < w.heap.size
theorem FormsAt.below {w w' : World} (h : FormsAt w) {B : Nat} (hb : Below B w w') (hB : 5 < B) : FormsAt w' :=
  ⟨fun i v hv => (hb.cell (p := ⟨5, i, none⟩) hB).trans (h.cell i v hv), Nat.lt_of_lt_of_le h.size hb.size⟩
theorem FormsAt.drewN {w : World} (h : FormsAt w) (n : Nat) : FormsAt (w.drewN n) := ⟨h.cell, h.size⟩
theorem is_any (r : Int) (w : World) : Calls Tryd.prog 81 #[.int .i64 r] w (RetB (isR r) w) := by
  go_enter Tryd.func81, Tryd.ntmps81
  go_wp2
  all_goals
    go_ret
    exact ⟨ret_bool (by rw [Bool.eq_iff_iff]; simp [isR]; omega), rfl⟩
/-- How many bytes, by a first one. -/
def lenOf (c : Int) : Nat := if c < 128 then 1 else if c < 192 then 0 else if c < 224 then 2 else if c < 240 then 3 else if c < 248 then 4 else 0
theorem length_any (c : Int) (w : World) (h0 : 0 ≤ c) (h1 : c ≤ 255) : Calls Tryd.prog 80 #[.int .u8 c] w (RetI (lenOf c) w) := by
  go_enter Tryd.func80, Tryd.ntmps80
  go_wp2
  all_goals
    go_ret
    exact ⟨ret_int (by unfold lenOf; repeat (first | rw [if_pos (by omega)] | rw [if_neg (by omega)]); try rfl), rfl⟩
/-- What Decode gives: nothing and an error, or the character and the place behind. -/
def TellDecode (i : Nat) (p : Int × Nat) (w : World) (e : Ending) (w' : World) : Prop :=
  e = .returned (.tuple #[.int .i64 (if p.2 = 0 then 0 else p.1), .int .i64 (if p.2 = 0 then 0 else (i : Int) + p.2), .int .i64 (if p.2 = 0 then 5 else 0)]) ∧ ∃ d, w' = w.drewN d
set_option maxHeartbeats 2000000 in
theorem decode_out (A : Option Addr) (n cp : Nat) (at_ : Int) (w : World) (h : at_ < 0 ∨ (n : Int) ≤ at_) :
    Calls Tryd.prog 75 #[.slice A n cp, .int .i64 at_] w fun e w' => e = .returned (.tuple #[.int .i64 0, .int .i64 0, .int .i64 3]) ∧ w = w' := by
  rcases h with h | h
  · go_enter Tryd.func75, Tryd.ntmps75
    go_wp2
    go_ret3
    exact ⟨rfl, rfl⟩
  · have t1 : decide ((n : Int) ≤ at_) = true := by simp; omega
    go_enter Tryd.func75, Tryd.ntmps75
    go_wp2
    all_goals
      go_ret3
      exact ⟨rfl, rfl⟩
set_option maxHeartbeats 2000000 in
theorem decode_short (a : Addr) (c : Int) (n cp i : Nat) (w : World) (_hn : n ≤ 140737488355328) (hi : i < n) (hcell : w.cell? (a.add i) = some (.int .u8 c)) (h0 : 0 ≤ c) (h1 : c ≤ 255) (h : lenOf c = 0 ∨ n < i + lenOf c) :
    Calls Tryd.prog 75 #[.slice (some a) n cp, .int .i64 i] w fun e w' => e = .returned (.tuple #[.int .i64 0, .int .i64 0, .int .i64 5]) ∧ w = w' := by
  generalize hq : lenOf c = q at *
  have Q := Lib.hid hq
  have hq4 : q ≤ 4 := by rw [← hq]; unfold lenOf; split <;> (try split) <;> (try split) <;> (try split) <;> (try split) <;> omega
  clear hq
  rcases h with h | h
  · subst h
    go_enter Tryd.func75, Tryd.ntmps75
    go_wp2_with fail
    refine (length_any c _ h0 h1).mono ?_; rintro e w' ⟨rfl, rfl⟩
    rw [Q.out]
    go_wp2
    go_ret3
    exact ⟨rfl, rfl⟩
  · by_cases hq0 : q = 0
    · subst hq0
      omega
    · have t1 : ((q : Int) == 0) = false := by simp; omega
      have t2 : decide ((n : Int) - (i : Int) < (q : Int)) = true := by simp; omega
      go_enter Tryd.func75, Tryd.ntmps75
      go_wp2_with fail
      refine (length_any c _ h0 h1).mono ?_; rintro e w' ⟨rfl, rfl⟩
      rw [Q.out]
      go_wp2
      all_goals
        go_ret3
        exact ⟨rfl, rfl⟩
theorem addAdd (a : Addr) (i j : Nat) : (a.add i).add j = a.add (i + j) := by
  unfold Addr.add
  by_cases hi : i = 0 <;> by_cases hj : j = 0 <;> simp [hi, hj, Nat.add_assoc]
/-- What the first byte and those behind it make. -/
def acc (xs : List Int) (i : Nat) (c0 : Int) : Nat → Int
  | 0 => c0
  | j + 1 => acc xs i c0 j * 64 + rest xs (i + 1 + j)
/-- The bytes behind the first one are what they must be. -/
def good (xs : List Int) (i j : Nat) : Prop := ∀ t, t < j → 0 ≤ rest xs (i + 1 + t)
theorem acc_b (xs : List Int) (i : Nat) (c0 : Int) (h0 : 0 ≤ c0) (h1 : c0 < 32) (j : Nat) (hj : j ≤ 3) (hg : good xs i j) : 0 ≤ acc xs i c0 j ∧ acc xs i c0 j < 8388608 := by
  have b := fun t => rest_b xs t
  have h : ∀ j, j ≤ 3 → good xs i j → 0 ≤ acc xs i c0 j ∧ acc xs i c0 j < 32 * 64 ^ j := by
    intro j
    induction j with
    | zero => intro _ _; simp [acc]; omega
    | succ j ih =>
      intro hj hg
      have h2 := ih (by omega) (fun t ht => hg t (by omega))
      have h3 := hg j (by omega)
      have h4 := b (i + 1 + j)
      have e : (64 : Int) ^ (j + 1) = 64 ^ j * 64 := Int.pow_succ 64 j
      simp only [acc]
      omega
  have h2 := h j hj hg
  have h3 : (64 : Int) ^ j ≤ 64 ^ 3 := by
    have : j = 0 ∨ j = 1 ∨ j = 2 ∨ j = 3 := by omega
    rcases this with rfl | rfl | rfl | rfl <;> decide
  omega
/-- What Decode gives at a first byte of two to four: the bytes behind it are wrong; the number is; all is well. -/
def DecodeMany (xs : List Int) (i m : Nat) (c0 least : Int) (w : World) (e : Ending) (w' : World) : Prop := ∃ d, w' = w.drewN d ∧
      ((¬ good xs i (m - 1) ∧ e = .returned (.tuple #[.int .i64 0, .int .i64 0, .int .i64 5])) ∨
       (good xs i (m - 1) ∧ (acc xs i c0 (m - 1) < least ∨ isR (acc xs i c0 (m - 1)) = false) ∧ e = .returned (.tuple #[.int .i64 0, .int .i64 0, .int .i64 5])) ∨
       (good xs i (m - 1) ∧ least ≤ acc xs i c0 (m - 1) ∧ isR (acc xs i c0 (m - 1)) = true ∧ e = .returned (.tuple #[.int .i64 (acc xs i c0 (m - 1)), .int .i64 ((i : Int) + m), .int .i64 0])))
set_option maxHeartbeats 2000000 in
set_option maxRecDepth 100000 in
theorem decode_many (a : Addr) (c mask least : Int) (n cp i m : Nat) (xs : List Int) (w : World) (_hn : n ≤ 140737488355328) (hcp : n ≤ cp) (hcp2 : cp ≤ 9223372036854775807) (hb : BytesAt w (some a) n xs) (hcell : w.cell? (a.add i) = some (.int .u8 c)) (h0 : 0 ≤ c) (h1 : c ≤ 255)
    (hm1 : 2 ≤ m) (hm2 : m ≤ 4) (hlen : lenOf c = m) (him : i + m ≤ n) (f1 : w.cell? ⟨5, m * 3 + 1, none⟩ = some (.int .u8 mask)) (f2 : w.cell? ⟨5, m * 3 + 2, none⟩ = some (.int .i64 least)) (hk0 : 0 ≤ bits .and .u8 c mask) (hk1 : bits .and .u8 c mask < 32) :
    Calls Tryd.prog 75 #[.slice (some a) n cp, .int .i64 i] w (DecodeMany xs i m (bits .and .u8 c mask) least w) := by
  generalize hc0 : bits .and .u8 c mask = c0 at *
  have C0 := Lib.hid hc0
  have B := Lib.hid hb
  have L := Lib.hid hlen
  have t1 : ((m : Int) == 0) = false := by simp; omega
  have i1 : (i : Int) < (n : Int) := by omega
  have i2 : (m : Int) < 5 := by omega
  have hne : ¬ cp = i + 1 := by omega
  have s1 : IntKind.i64.wrap ((i : Int) + 1) = (i : Int) + 1 := IntWalk.i64_in _ (by omega)
  have s2 : IntKind.i64.wrap ((i : Int) + m) = (i : Int) + m := IntWalk.i64_in _ (by omega)
  clear hb hlen s1 s2
  go_enter Tryd.func75, Tryd.ntmps75
  go_wp2_with fail
  refine (length_any c _ h0 h1).mono ?_; rintro e w' ⟨rfl, rfl⟩
  rw [L.out]
  go_wp2_with fail
  go_quiet (fail)
  go_wp2_with fail
  clear hc0
  have hlen2 : i + m - (i + 1) = m - 1 := by omega
  rw [hlen2]
  clear hlen2
  go_loop [4, 51] (fun r j => ∃ k : Nat, k ≤ m - 1 ∧ j = .int .i64 k ∧ r = .int .i64 (acc xs i c0 k) ∧ Hid (good xs i k)) (fun _ j => m - (intOf j).toNat)
  case atStart => exact ⟨0, by omega, rfl, rfl, fun t ht => by omega⟩
  case round =>
    obtain ⟨k, hk, rfl, rfl, HG⟩ := hrel
    have hacc := acc_b xs i c0 hk0 hk1 k (by omega) HG.out
    by_cases hlt : k < m - 1
    · obtain ⟨a', x, ha, hx, hx0, hx1, _, hc2⟩ := B.out.2 (i + 1 + k) (by omega)
      obtain rfl : a = a' := by injection ha
      have hcell2 : w.cell? ⟨a.block, a.off + (i + 1) + k, none⟩ = some (.int .u8 x) := by
        have e : a.add (i + 1 + k) = ⟨a.block, a.off + (i + 1) + k, none⟩ := by unfold Addr.add; rw [if_neg (by omega)]; simp only [Addr.mk.injEq, and_true, true_and]; omega
        rw [← e]; exact hc2
      have hbf := byte_fact x hx0 hx1
      have hr : rest xs (i + 1 + k) = if 128 ≤ x ∧ x ≤ 191 then x - 128 else -1 := by unfold rest; rw [hx]
      clear ha hx hc2
      have i3 : (k : Int) < ((m - 1 : Nat) : Int) := by omega
      by_cases hgood : 128 ≤ x ∧ x ≤ 191
      · have t2 : (bits .and .u8 x 192 != 128) = false := by simp; exact hbf.1.2 hgood
        have t3 : bits .and .u8 x 63 = x - 128 := hbf.2.1 hgood
        have t4 : bits .or .i64 (acc xs i c0 k * 64) (x - 128) = acc xs i c0 (k + 1) := by
          rw [or_six _ _ hacc.1 hacc.2 (by omega) (by omega)]
          simp only [acc]; rw [hr, if_pos hgood]
        have HG2 : Hid (good xs i (k + 1)) := fun t ht => by
          by_cases e : t = k
          · subst e; rw [hr, if_pos hgood]; omega
          · exact HG.out t (by omega)
        have hg1 : 0 ≤ x - 128 := by omega
        have hg2 : x - 128 ≤ 63 := by omega
        clear HG hr hbf
        go_wp2
        go_round
        case rel => exact ⟨k + 1, by omega, by go_num, rfl, HG2⟩
        case measure => simp [intOf]; omega
      · have t2 : (bits .and .u8 x 192 != 128) = true := by simp; intro e; exact hgood (hbf.1.1 e)
        have HG2 : Hid (¬ good xs i (m - 1)) := fun h => by
          have := h k hlt
          rw [hr, if_neg hgood] at this; omega
        clear HG hr hbf
        go_wp2
        go_ret3
        exact ⟨_, rfl, .inl ⟨HG2, rfl⟩⟩
    · obtain rfl : k = m - 1 := by omega
      have i3 : ¬ (((m - 1 : Nat) : Int) < ((m - 1 : Nat) : Int)) := by omega
      by_cases hl : acc xs i c0 (m - 1) < least
      · go_wp2
        all_goals
          go_ret3
          exact ⟨_, rfl, .inr (.inl ⟨HG.out, .inl hl, rfl⟩)⟩
      · cases hR : isR (acc xs i c0 (m - 1)) with
        | false =>
          have R := Lib.hid hR
          clear hR
          have t5 : decide (acc xs i c0 (m - 1) < least) = false := by simp; omega
          go_wp2_with fail
          refine (is_any _ _).mono ?_; rintro e w' ⟨rfl, rfl⟩
          rw [R.out]
          go_wp2
          go_ret3
          exact ⟨_, rfl, .inr (.inl ⟨HG.out, .inr R.out, rfl⟩)⟩
        | true =>
          have R := Lib.hid hR
          clear hR
          have t5 : decide (acc xs i c0 (m - 1) < least) = false := by simp; omega
          go_wp2_with fail
          refine (is_any _ _).mono ?_; rintro e w' ⟨rfl, rfl⟩
          rw [R.out]
          go_wp2
          go_ret3
          exact ⟨_, rfl, .inr (.inr ⟨HG.out, by omega, R.out, rfl⟩)⟩
set_option maxHeartbeats 2000000 in
set_option maxRecDepth 100000 in
theorem decode_one (a : Addr) (c : Int) (n cp i : Nat) (w : World) (_hn : n ≤ 140737488355328) (hcp : n ≤ cp) (hcp2 : cp ≤ 9223372036854775807) (hi : i < n) (hf : FormsAt w) (hcell : w.cell? (a.add i) = some (.int .u8 c)) (h0 : 0 ≤ c) (h1 : c < 128) :
    Calls Tryd.prog 75 #[.slice (some a) n cp, .int .i64 i] w (TellDecode i (c, 1) w) := by
  have f1 := hf.cell 4 _ rfl
  have f2 := hf.cell 5 _ rfl
  have L : Hid (lenOf c = 1) := by show _ = _; unfold lenOf; rw [if_pos h1]
  have hc : bits .and .u8 c 127 = c := (byte_fact c h0 (by omega)).2.2.1 h1
  have R : Hid (isR c = true) := by show _ = _; simp [isR]; omega
  have t5 : decide (c < 0) = false := by simp; omega
  have i1 : (i : Int) < (n : Int) := by omega
  have s1 : IntKind.i64.wrap ((i : Int) + 1) = (i : Int) + 1 := IntWalk.i64_in _ (by omega)
  have t6 : decide ((n : Int) - (i : Int) < 1) = false := by simp; omega
  clear s1 hf
  by_cases hcc : cp = i + 1
  · subst hcc
    go_enter Tryd.func75, Tryd.ntmps75
    go_wp2_with fail
    refine (length_any c _ h0 (by omega)).mono ?_; rintro e w' ⟨rfl, rfl⟩
    rw [L.out]
    go_wp2_with fail
    go_quiet (fail)
    go_wp2_with fail
    go_loop [4, 51] (fun r j => r = .int .i64 c ∧ j = .int .i64 0) (fun _ _ => 0)
    case atStart => exact ⟨rfl, rfl⟩
    case round =>
      obtain ⟨rfl, rfl⟩ := hrel
      go_wp2_with fail
      refine (is_any _ _).mono ?_; rintro e w' ⟨rfl, rfl⟩
      rw [R.out]
      go_wp2
      go_ret3
      exact ⟨rfl, _, rfl⟩
  · have hne : ¬ cp = i + 1 := hcc
    clear hcc
    go_enter Tryd.func75, Tryd.ntmps75
    go_wp2_with fail
    refine (length_any c _ h0 (by omega)).mono ?_; rintro e w' ⟨rfl, rfl⟩
    rw [L.out]
    go_wp2_with fail
    go_quiet (fail)
    go_wp2_with fail
    go_loop [4, 51] (fun r j => r = .int .i64 c ∧ j = .int .i64 0) (fun _ _ => 0)
    case atStart => exact ⟨rfl, rfl⟩
    case round =>
      obtain ⟨rfl, rfl⟩ := hrel
      go_wp2_with fail
      refine (is_any _ _).mono ?_; rintro e w' ⟨rfl, rfl⟩
      rw [R.out]
      go_wp2
      go_ret3
      exact ⟨rfl, _, rfl⟩
/-- What the first byte says of the number. -/
def base (m : Nat) : Int := if m = 2 then 192 else if m = 3 then 224 else 240
def leastOf (m : Nat) : Int := if m = 2 then 128 else if m = 3 then 2048 else 65536
theorem charAt_short (xs : List Int) (i : Nat) (c : Int) (hx : xs[i]? = some c) (h : lenOf c = 0 ∨ xs.length < i + lenOf c) : charAt xs i = (0, 0) := by
  have hi := (List.getElem?_eq_some_iff.1 hx).1
  apply charAt_none
  have e0 : xs.getD i 0 = c := by rw [List.getD_eq_getElem?_getD, hx]; rfl
  rw [e0]
  have hr : ∀ k, xs.length ≤ k → rest xs k = -1 := fun k hk => by unfold rest; rw [List.getElem?_eq_none hk]
  unfold lenOf at h
  unfold cand
  by_cases k1 : c < 128
  · rw [if_pos k1] at h; omega
  · rw [if_neg k1] at h ⊢
    by_cases k2 : c < 192
    · rw [if_neg (by omega), if_neg (by omega), if_neg (by omega)]
    · rw [if_neg k2] at h
      by_cases k3 : c < 224
      · rw [if_pos k3] at h
        have := hr (i + 1) (by omega)
        rw [if_neg (by omega), if_neg (by omega), if_neg (by omega)]
      · rw [if_neg k3] at h
        by_cases k4 : c < 240
        · rw [if_pos k4] at h
          have := hr (i + 2) (by omega)
          rw [if_neg (by omega), if_neg (by omega), if_neg (by omega)]
        · rw [if_neg k4] at h
          by_cases k5 : c < 248
          · rw [if_pos k5] at h
            have := hr (i + 3) (by omega)
            rw [if_neg (by omega), if_neg (by omega), if_neg (by omega)]
          · rw [if_neg (by omega), if_neg (by omega), if_neg (by omega)]
theorem charAt_bad (xs : List Int) (i m : Nat) (c : Int) (hx : xs[i]? = some c) (hm : lenOf c = m) (h1 : 2 ≤ m) (hg : ¬ good xs i (m - 1)) : charAt xs i = (0, 0) := by
  apply charAt_none
  have e0 : xs.getD i 0 = c := by rw [List.getD_eq_getElem?_getD, hx]; rfl
  rw [e0]
  unfold cand
  by_cases k1 : c < 128
  · unfold lenOf at hm; rw [if_pos k1] at hm; omega
  · rw [if_neg k1]
    by_cases a2 : 192 ≤ c ∧ c < 224 ∧ 0 ≤ rest xs (i + 1)
    · exfalso
      have : m = 2 := by rw [← hm]; unfold lenOf; rw [if_neg k1, if_neg (by omega), if_pos a2.2.1]
      subst this
      exact hg fun t ht => by obtain rfl : t = 0 := by omega
                              exact a2.2.2
    · rw [if_neg a2]
      by_cases a3 : 224 ≤ c ∧ c < 240 ∧ 0 ≤ rest xs (i + 1) ∧ 0 ≤ rest xs (i + 2)
      · exfalso
        have : m = 3 := by rw [← hm]; unfold lenOf; rw [if_neg k1, if_neg (by omega), if_neg (by omega), if_pos a3.2.1]
        subst this
        exact hg fun t ht => by
          rcases (by omega : t = 0 ∨ t = 1) with rfl | rfl
          · exact a3.2.2.1
          · exact a3.2.2.2
      · rw [if_neg a3]
        by_cases a4 : 240 ≤ c ∧ c < 248 ∧ 0 ≤ rest xs (i + 1) ∧ 0 ≤ rest xs (i + 2) ∧ 0 ≤ rest xs (i + 3)
        · exfalso
          have : m = 4 := by rw [← hm]; unfold lenOf; rw [if_neg k1, if_neg (by omega), if_neg (by omega), if_neg (by omega), if_pos a4.2.1]
          subst this
          exact hg fun t ht => by
            rcases (by omega : t = 0 ∨ t = 1 ∨ t = 2) with rfl | rfl | rfl
            · exact a4.2.2.1
            · exact a4.2.2.2.1
            · exact a4.2.2.2.2
        · rw [if_neg a4]
theorem charAt_good (xs : List Int) (i m : Nat) (c : Int) (hx : xs[i]? = some c) (hm : lenOf c = m) (h1 : 2 ≤ m) (hg : good xs i (m - 1)) : charAt xs i = endOf (acc xs i (c - base m) (m - 1)) m := by
  have e0 : xs.getD i 0 = c := by rw [List.getD_eq_getElem?_getD, hx]; rfl
  apply charAt_of _ _ _ _ _ (by omega)
  rw [e0]
  have hc : (m = 2 ∧ 192 ≤ c ∧ c < 224) ∨ (m = 3 ∧ 224 ≤ c ∧ c < 240) ∨ (m = 4 ∧ 240 ≤ c ∧ c < 248) := by
    unfold lenOf at hm
    split at hm
    · omega
    · split at hm
      · omega
      · split at hm
        · omega
        · split at hm
          · omega
          · split at hm <;> omega
  rcases hc with ⟨rfl, a1, a2⟩ | ⟨rfl, a1, a2⟩ | ⟨rfl, a1, a2⟩
  · have g0 := hg 0 (by omega)
    unfold cand; rw [if_neg (by omega), if_pos ⟨a1, a2, g0⟩]; rfl
  · have g0 := hg 0 (by omega)
    have g1 := hg 1 (by omega)
    unfold cand; rw [if_neg (by omega), if_neg (by omega), if_pos ⟨a1, a2, g0, g1⟩]; rfl
  · have g0 := hg 0 (by omega)
    have g1 := hg 1 (by omega)
    have g2 := hg 2 (by omega)
    unfold cand; rw [if_neg (by omega), if_neg (by omega), if_neg (by omega), if_pos ⟨a1, a2, g0, g1, g2⟩]; rfl
theorem sizeR_least (r : Int) (m : Nat) (h1 : 2 ≤ m) (h2 : m ≤ 4) (hr : (m = 2 → r < 2048) ∧ (m = 3 → r < 65536)) : leastOf m ≤ r ↔ sizeR r = m := by
  rcases (by omega : m = 2 ∨ m = 3 ∨ m = 4) with rfl | rfl | rfl
  · have := hr.1 rfl
    show (128 : Int) ≤ r ↔ sizeR r = 2
    unfold sizeR; split <;> (try split) <;> (try split) <;> omega
  · have := hr.2 rfl
    show (2048 : Int) ≤ r ↔ sizeR r = 3
    unfold sizeR; split <;> (try split) <;> (try split) <;> omega
  · show (65536 : Int) ≤ r ↔ sizeR r = 4
    unfold sizeR; split <;> (try split) <;> (try split) <;> omega
theorem acc_high (xs : List Int) (i m : Nat) (c : Int) (hm : (m = 2 ∧ 192 ≤ c ∧ c < 224) ∨ (m = 3 ∧ 224 ≤ c ∧ c < 240) ∨ (m = 4 ∧ 240 ≤ c ∧ c < 248)) :
    (m = 2 → acc xs i (c - base m) (m - 1) < 2048) ∧ (m = 3 → acc xs i (c - base m) (m - 1) < 65536) := by
  have b1 := rest_b xs (i + 1 + 0)
  have b2 := rest_b xs (i + 1 + 1)
  rcases hm with ⟨rfl, a1, a2⟩ | ⟨rfl, a1, a2⟩ | ⟨rfl, a1, a2⟩
  · refine ⟨fun _ => ?_, fun h => by omega⟩
    show (c - base 2) * 64 + rest xs (i + 1 + 0) < 2048
    have : base 2 = 192 := rfl
    omega
  · refine ⟨fun h => by omega, fun _ => ?_⟩
    show ((c - base 3) * 64 + rest xs (i + 1 + 0)) * 64 + rest xs (i + 1 + 1) < 65536
    have : base 3 = 224 := rfl
    omega
  · exact ⟨fun h => by omega, fun h => by omega⟩
theorem decode_any (A : Option Addr) (n cp i : Nat) (xs : List Int) (w : World) (hn : n ≤ 140737488355328) (hcp : n ≤ cp) (hcp2 : cp ≤ 9223372036854775807) (hb : BytesAt w A n xs) (hf : FormsAt w) (hi : i < n) :
    Calls Tryd.prog 75 #[.slice A n cp, .int .i64 i] w (TellDecode i (charAt xs i) w) := by
  obtain ⟨a, c, rfl, hx, h0, h1, _, hcell⟩ := hb.2 i hi
  by_cases hs : lenOf c = 0 ∨ n < i + lenOf c
  · rw [charAt_short xs i c hx (by rw [hb.1]; exact hs)]
    exact (decode_short a c n cp i w hn hi hcell h0 h1 hs).mono fun e w' ⟨h1, h2⟩ => ⟨h1, 0, h2.symm⟩
  · by_cases k1 : c < 128
    · have e0 : xs.getD i 0 = c := by rw [List.getD_eq_getElem?_getD, hx]; rfl
      have e : charAt xs i = (c, 1) := by
        rw [charAt_of xs i c 1 (by rw [e0]; unfold cand; rw [if_pos k1]) (by omega)]
        unfold endOf; rw [if_neg]
        have e1 : isR c = true := by simp [isR]; omega
        have e2 : sizeR c = 1 := by unfold sizeR; rw [if_pos k1]
        simp [e1, e2]
      rw [e]
      exact decode_one a c n cp i w hn hcp hcp2 hi hf hcell h0 k1
    · obtain ⟨m, hm⟩ : ∃ m, lenOf c = m := ⟨_, rfl⟩
      have hc : (m = 2 ∧ 192 ≤ c ∧ c < 224) ∨ (m = 3 ∧ 224 ≤ c ∧ c < 240) ∨ (m = 4 ∧ 240 ≤ c ∧ c < 248) := by
        rw [hm] at hs
        unfold lenOf at hm
        split at hm
        · omega
        · split at hm
          · omega
          · split at hm
            · omega
            · split at hm
              · omega
              · split at hm <;> omega
      have hbf := byte_fact c h0 h1
      have hm1 : 2 ≤ m := by omega
      have hm2 : m ≤ 4 := by omega
      have key : ∀ mask, w.cell? ⟨5, m * 3 + 1, none⟩ = some (.int .u8 mask) → w.cell? ⟨5, m * 3 + 2, none⟩ = some (.int .i64 (leastOf m)) → bits .and .u8 c mask = c - base m → 0 ≤ c - base m → c - base m < 32 →
          Calls Tryd.prog 75 #[.slice (some a) n cp, .int .i64 i] w (TellDecode i (charAt xs i) w) := by
        intro mask f1 f2 hk hk0 hk1
        refine (decode_many a c mask (leastOf m) n cp i m xs w hn hcp hcp2 hb hcell h0 h1 hm1 hm2 hm (by rw [hm] at hs; omega) f1 f2 (by rw [hk]; exact hk0) (by rw [hk]; exact hk1)).mono ?_
        rw [hk]
        rintro e w' ⟨d, rfl, h⟩
        rcases h with ⟨hg, rfl⟩ | ⟨hg, hl, rfl⟩ | ⟨hg, hl, hR, rfl⟩
        · rw [charAt_bad xs i m c hx hm hm1 hg]; exact ⟨rfl, d, rfl⟩
        · have e : charAt xs i = (0, 0) := by
            rw [charAt_good xs i m c hx hm hm1 hg]
            unfold endOf; rw [if_pos]
            rcases hl with hl | hl
            · exact .inr fun e => by have := (sizeR_least _ m hm1 hm2 (acc_high xs i m c hc)).2 e; omega
            · exact .inl hl
          rw [e]; exact ⟨rfl, d, rfl⟩
        · have e : charAt xs i = (acc xs i (c - base m) (m - 1), m) := by
            rw [charAt_good xs i m c hx hm hm1 hg]
            unfold endOf; rw [if_neg]
            have := (sizeR_least _ m hm1 hm2 (acc_high xs i m c hc)).1 hl
            simp [hR, this]
          rw [e]
          refine ⟨?_, d, rfl⟩
          rw [if_neg (by show ¬ m = 0; omega), if_neg (by show ¬ m = 0; omega), if_neg (by show ¬ m = 0; omega)]
      rcases hc with ⟨rfl, a1, a2⟩ | ⟨rfl, a1, a2⟩ | ⟨rfl, a1, a2⟩
      · exact key 31 (hf.cell 7 _ rfl) (hf.cell 8 _ rfl) (hbf.2.2.2.1 ⟨a1, a2⟩) (by show 0 ≤ c - 192; omega) (by show c - 192 < 32; omega)
      · exact key 15 (hf.cell 10 _ rfl) (hf.cell 11 _ rfl) (hbf.2.2.2.2.1 ⟨a1, a2⟩) (by show 0 ≤ c - 224; omega) (by show c - 224 < 32; omega)
      · exact key 7 (hf.cell 13 _ rfl) (hf.cell 14 _ rfl) (hbf.2.2.2.2.2 ⟨a1, a2⟩) (by show 0 ≤ c - 240; omega) (by show c - 240 < 32; omega)
end Go.Proofs.YtlifdmehejehjaaDoor
