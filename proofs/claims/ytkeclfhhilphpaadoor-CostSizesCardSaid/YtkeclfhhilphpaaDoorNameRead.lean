/- The contracts of Name, Plain, IsName, IsPlain, IsToken, Blanks, and of the reference's Read, Is, Blanks. Conditions: the tables of chars and of utf hold what the text gives them. -/
import Derived.Test.YtkeclfhhilphpaaDoorNameEnd
import Derived.Test.YtkeclfhhilphpaaDoorBytesStr
import Derived.Test.YtkeclfhhilphpaaDoorStrEq
import Derived.Lib.ConvBytes
namespace Go.Proofs.YtkeclfhhilphpaaDoor
open Go.RowKit Go.Proofs.YtkeclfhhilphpaaDoor.UtfPlain Go.Proofs.YtkeclfhhilphpaaDoor.CharsPlain Go.Proofs.YtkeclfhhilphpaaDoor.NamePlain
/-- A text's bytes as numbers. -/
def bsOf (s : ByteArray) : List Int := s.data.toList.map fun b => (b.toNat : Int)
theorem bsOf_len (s : ByteArray) : (bsOf s).length = s.size := by unfold bsOf; rw [List.length_map, Array.length_toList]; rfl
theorem bsOf_b (s : ByteArray) : ∀ x ∈ bsOf s, 0 ≤ x ∧ x ≤ 255 := by
  intro x hx
  obtain ⟨b, _, rfl⟩ := List.mem_map.1 hx
  have := b.toNat_lt
  omega
theorem strOf_bsOf (s : ByteArray) : strOfNums (bsOf s) = s := by
  apply Go.WideShapes.bytes_inj
  unfold strOfNums bsOf
  simp [List.map_map, Function.comp_def]
theorem bsOf_strOf (xs : List Int) (h : ∀ x ∈ xs, 0 ≤ x ∧ x ≤ 255) : bsOf (strOfNums xs) = xs := by
  unfold bsOf strOfNums
  simp only [List.map_map]
  apply List.ext_getElem (by simp)
  intro i h1 h2
  have hb := h xs[i] (List.getElem_mem h2)
  simp
  omega
theorem bytesWorld_below (w : World) (s : ByteArray) : Below w.heap.size w (Lib.bytesWorld w 5 s) :=
  ⟨by unfold Lib.bytesWorld World.freeze; split <;> rfl, by unfold Lib.bytesWorld World.freeze; split <;> rfl, by unfold Lib.bytesWorld World.freeze; split <;> rfl, by rw [Lib.bytesWorld_size]; omega, fun k hk => Lib.bytesWorld_at_old w _ s k hk⟩
theorem bytesWorld_bytes (w : World) (s : ByteArray) : BytesAt (Lib.bytesWorld w 5 s) (some ⟨w.heap.size, 0, none⟩) s.size (bsOf s) := by
  refine ⟨bsOf_len s, fun k hk => ?_⟩
  have hk' : k < (bsOf s).length := by rw [bsOf_len]; exact hk
  have hb := bsOf_b s _ (List.getElem_mem hk')
  refine ⟨_, (bsOf s)[k], rfl, List.getElem?_eq_getElem hk', hb.1, hb.2, by show w.heap.size < _; rw [Lib.bytesWorld_size]; omega, ?_⟩
  have ha : (⟨w.heap.size, 0, none⟩ : Addr).add k = ⟨w.heap.size, k, none⟩ := by unfold Addr.add; split <;> simp_all
  rw [ha, Lib.bytesWorld_cell w _ s k hk]
  have hkd : k < s.data.toList.length := by rw [Array.length_toList]; exact hk
  simp only [bsOf, List.getElem_map, List.getD_eq_getElem?_getD, List.getElem?_eq_getElem hkd, Option.getD_some]
theorem BytesAt.sub {w : World} {a : Addr} {n i j : Nat} {xs : List Int} (h : BytesAt w (some a) n xs) (hij : i ≤ j) (hj : j ≤ n) : BytesAt w (some (a.add i)) (j - i) (cut xs i j) := by
  refine ⟨by unfold cut; rw [List.length_take, List.length_drop, h.1]; omega, fun k hk => ?_⟩
  obtain ⟨b, x, h1, h2, h3, h4, h5, h6⟩ := h.2 (i + k) (by omega)
  cases h1
  refine ⟨_, x, rfl, ?_, h3, h4, by rw [addBlock]; exact h5, by rw [addAdd]; exact h6⟩
  unfold cut
  rw [List.getElem?_take, if_pos hk, List.getElem?_drop]
  exact h2
def TellRead (r : List Int × Int × Int) (w : World) (e : Ending) (w' : World) : Prop := e = .returned (.tuple #[.string (strOfNums r.1), .int .i64 r.2.1, .int .i64 r.2.2]) ∧ Below w.heap.size w w'
theorem readN_out (bs : List Int) (plain : Bool) (at_ : Int) (h : at_ < 0 ∨ (bs.length : Int) < at_) : readN bs plain at_ = ([], 0, 3) := by unfold readN; rw [if_pos h]
theorem readN_none (bs : List Int) (plain : Bool) (i : Nat) (hi : i ≤ bs.length) (h : endN bs plain true i = i) : readN bs plain i = ([], 0, 7) := by
  unfold readN; rw [if_neg (by omega), if_pos (by simpa using h)]
theorem readN_long (bs : List Int) (plain : Bool) (i : Nat) (hi : i ≤ bs.length) (h : ¬ endN bs plain true i = i) (h2 : 1024 < endN bs plain true i - i) : readN bs plain i = ([], 0, 11) := by
  unfold readN; rw [if_neg (by omega), if_neg (by simpa using h), if_pos (by simpa using h2)]
theorem readN_ok (bs : List Int) (plain : Bool) (i : Nat) (hi : i ≤ bs.length) (h : ¬ endN bs plain true i = i) (h2 : ¬ 1024 < endN bs plain true i - i) : readN bs plain (i : Int) = (cut bs i (endN bs plain true i), ((endN bs plain true i : Nat) : Int), 0) := by
  unfold readN; rw [if_neg (by omega), Int.toNat_natCast, if_neg h, if_neg h2]
--GEN
set_option maxRecDepth 100000 in
set_option maxHeartbeats 4000000 in
theorem read0_any (plain : Bool) (f1 f2 : FuncId) (A : Option Addr) (n cp : Nat) (at_ : Int) (xs : List Int) (w : World) (hn : n ≤ 140737488355328) (hcp : n ≤ cp) (hcp2 : cp ≤ 9223372036854775807) (hb : BytesAt w A n xs) (hf : FormsAt w)
    (hm1 : MayF0 f1 (mayK true plain) w) (hm2 : MayF0 f2 (mayK false plain) w) :
    Calls Tryd.prog 58 #[.agg #[(.func (.func f1) #[] #[]), (.func (.func f2) #[] #[])], .slice A n cp, .int .i64 at_] w (TellRead (readN xs plain at_) w) := by
  rcases Int.lt_or_le at_ 0 with h0 | h0
  · rw [readN_out xs plain at_ (.inl h0)]
    obtain ⟨W, hW, hB0, hs0, c0, c1⟩ := sortBox w (.func (.func f1) #[] #[]) (.func (.func f2) #[] #[]) 113
    have HB0 := Lib.hid hB0
    clear hB0 hb hf hm1 hm2
    go_enter Tryd.func58, Tryd.ntmps58
    go_wp2
    go_ret3
    exact ⟨rfl, HB0.out⟩
  · rcases Int.lt_or_le (n : Int) at_ with h1 | h1
    · rw [readN_out xs plain at_ (.inr (by rw [hb.1]; exact h1))]
      have t1 : decide ((n : Int) < at_) = true := by simpa using h1
      have t0 : decide (at_ < (0 : Int)) = false := by simp; omega
      obtain ⟨W, hW, hB0, hs0, c0, c1⟩ := sortBox w (.func (.func f1) #[] #[]) (.func (.func f2) #[] #[]) 113
      have HB0 := Lib.hid hB0
      clear hB0 hb hf hm1 hm2
      go_enter Tryd.func58, Tryd.ntmps58
      go_wp2
      all_goals
        go_ret3
        exact ⟨rfl, HB0.out⟩
    · obtain ⟨i, rfl⟩ : ∃ i : Nat, at_ = i := ⟨at_.toNat, by omega⟩
      have hi : i ≤ n := by omega
      obtain ⟨W, hW, hB0, hs0, c0, c1⟩ := sortBox w (.func (.func f1) #[] #[]) (.func (.func f2) #[] #[]) 113
      have EN := Lib.hid (end0_any plain f1 f2 A n cp i xs W hn hcp hcp2 (hb.below hB0) (hf.below hB0 hf.size) (hm1.below hB0) (hm2.below hB0) hi)
      have hr := endN_b xs plain true i (by rw [hb.1]; exact hi)
      rw [hb.1] at hr
      have HB := Lib.hid hb
      have HB0 := Lib.hid hB0
      have XL : Hid (i ≤ xs.length) := by rw [hb.1]; exact hi
      by_cases e0 : endN xs plain true i = i
      · rw [readN_none xs plain i XL.out e0]
        rw [e0] at EN
        clear hb hf hm1 hm2 hB0 e0 hr
        go_enter Tryd.func58, Tryd.ntmps58
        go_wp2_with fail
        refine EN.out.mono ?_
        rintro x w2 ⟨rfl, hB2⟩
        go_wp2
        go_ret3
        exact ⟨rfl, HB0.out.trans (hB2.mono HB0.out.size)⟩
      · by_cases e1 : 1024 < endN xs plain true i - i
        · rw [readN_long xs plain i XL.out e0 e1]
          generalize endN xs plain true i = j at *
          have t1 : ((j : Int) == (i : Int)) = false := by simp; omega
          have t2 : decide ((1024 : Int) < (j : Int) - (i : Int)) = true := by simp; omega
          clear hb hf hm1 hm2 hB0
          go_enter Tryd.func58, Tryd.ntmps58
          go_wp2_with fail
          refine EN.out.mono ?_
          rintro x w2 ⟨rfl, hB2⟩
          go_wp2
          go_ret3
          exact ⟨rfl, HB0.out.trans (hB2.mono HB0.out.size)⟩
        · rw [readN_ok xs plain i XL.out e0 e1]
          generalize endN xs plain true i = j at *
          have t1 : ((j : Int) == (i : Int)) = false := by simp; omega
          have t2 : decide ((1024 : Int) < (j : Int) - (i : Int)) = false := by simp; omega
          have hij : i < j := by omega
          obtain ⟨a, _, rfl, _⟩ := hb.2 i (by omega)
          have hcv := fun V (h : Below w.heap.size w V) (c' : Nat) => convB V (some (a.add i)) (j - i) c' (cut xs i j) ((HB.out.below h).sub (by omega) (by omega))
          have HCV := Lib.hid hcv
          have b0 : j ≤ cp := by omega
          have b1 : (i : Int) ≤ (j : Int) := by omega
          have b2 : (j : Int) ≤ (cp : Int) := by omega
          have b3 : ¬ cp = i := by omega
          clear hb hf hm1 hm2 hB0 hcv
          go_enter Tryd.func58, Tryd.ntmps58
          go_wp2_with fail
          refine EN.out.mono ?_
          rintro x w2 ⟨rfl, hB2⟩
          have hC2 := HB0.out.trans (hB2.mono HB0.out.size)
          have hv := HCV.out w2 hC2
          go_wp2
          go_ret3
          exact ⟨rfl, hC2⟩
set_option maxRecDepth 100000 in
set_option maxHeartbeats 4000000 in
theorem read1_any (plain : Bool) (f1 f2 : FuncId) (cap1 cap2 : Value) (A : Option Addr) (n cp : Nat) (at_ : Int) (xs : List Int) (w : World) (hn : n ≤ 140737488355328) (hcp : n ≤ cp) (hcp2 : cp ≤ 9223372036854775807) (hb : BytesAt w A n xs) (hf : FormsAt w)
    (hm1 : MayF1 f1 cap1 (mayK true plain) w) (hm2 : MayF1 f2 cap2 (mayK false plain) w) :
    Calls Tryd.prog 58 #[.agg #[(.func (.func f1) #[] #[cap1]), (.func (.func f2) #[] #[cap2])], .slice A n cp, .int .i64 at_] w (TellRead (readN xs plain at_) w) := by
  rcases Int.lt_or_le at_ 0 with h0 | h0
  · rw [readN_out xs plain at_ (.inl h0)]
    obtain ⟨W, hW, hB0, hs0, c0, c1⟩ := sortBox w (.func (.func f1) #[] #[cap1]) (.func (.func f2) #[] #[cap2]) 113
    have HB0 := Lib.hid hB0
    clear hB0 hb hf hm1 hm2
    go_enter Tryd.func58, Tryd.ntmps58
    go_wp2
    go_ret3
    exact ⟨rfl, HB0.out⟩
  · rcases Int.lt_or_le (n : Int) at_ with h1 | h1
    · rw [readN_out xs plain at_ (.inr (by rw [hb.1]; exact h1))]
      have t1 : decide ((n : Int) < at_) = true := by simpa using h1
      have t0 : decide (at_ < (0 : Int)) = false := by simp; omega
      obtain ⟨W, hW, hB0, hs0, c0, c1⟩ := sortBox w (.func (.func f1) #[] #[cap1]) (.func (.func f2) #[] #[cap2]) 113
      have HB0 := Lib.hid hB0
      clear hB0 hb hf hm1 hm2
      go_enter Tryd.func58, Tryd.ntmps58
      go_wp2
      all_goals
        go_ret3
        exact ⟨rfl, HB0.out⟩
    · obtain ⟨i, rfl⟩ : ∃ i : Nat, at_ = i := ⟨at_.toNat, by omega⟩
      have hi : i ≤ n := by omega
      obtain ⟨W, hW, hB0, hs0, c0, c1⟩ := sortBox w (.func (.func f1) #[] #[cap1]) (.func (.func f2) #[] #[cap2]) 113
      have EN := Lib.hid (end1_any plain f1 f2 cap1 cap2 A n cp i xs W hn hcp hcp2 (hb.below hB0) (hf.below hB0 hf.size) (hm1.below hB0) (hm2.below hB0) hi)
      have hr := endN_b xs plain true i (by rw [hb.1]; exact hi)
      rw [hb.1] at hr
      have HB := Lib.hid hb
      have HB0 := Lib.hid hB0
      have XL : Hid (i ≤ xs.length) := by rw [hb.1]; exact hi
      by_cases e0 : endN xs plain true i = i
      · rw [readN_none xs plain i XL.out e0]
        rw [e0] at EN
        clear hb hf hm1 hm2 hB0 e0 hr
        go_enter Tryd.func58, Tryd.ntmps58
        go_wp2_with fail
        refine EN.out.mono ?_
        rintro x w2 ⟨rfl, hB2⟩
        go_wp2
        go_ret3
        exact ⟨rfl, HB0.out.trans (hB2.mono HB0.out.size)⟩
      · by_cases e1 : 1024 < endN xs plain true i - i
        · rw [readN_long xs plain i XL.out e0 e1]
          generalize endN xs plain true i = j at *
          have t1 : ((j : Int) == (i : Int)) = false := by simp; omega
          have t2 : decide ((1024 : Int) < (j : Int) - (i : Int)) = true := by simp; omega
          clear hb hf hm1 hm2 hB0
          go_enter Tryd.func58, Tryd.ntmps58
          go_wp2_with fail
          refine EN.out.mono ?_
          rintro x w2 ⟨rfl, hB2⟩
          go_wp2
          go_ret3
          exact ⟨rfl, HB0.out.trans (hB2.mono HB0.out.size)⟩
        · rw [readN_ok xs plain i XL.out e0 e1]
          generalize endN xs plain true i = j at *
          have t1 : ((j : Int) == (i : Int)) = false := by simp; omega
          have t2 : decide ((1024 : Int) < (j : Int) - (i : Int)) = false := by simp; omega
          have hij : i < j := by omega
          obtain ⟨a, _, rfl, _⟩ := hb.2 i (by omega)
          have hcv := fun V (h : Below w.heap.size w V) (c' : Nat) => convB V (some (a.add i)) (j - i) c' (cut xs i j) ((HB.out.below h).sub (by omega) (by omega))
          have HCV := Lib.hid hcv
          have b0 : j ≤ cp := by omega
          have b1 : (i : Int) ≤ (j : Int) := by omega
          have b2 : (j : Int) ≤ (cp : Int) := by omega
          have b3 : ¬ cp = i := by omega
          clear hb hf hm1 hm2 hB0 hcv
          go_enter Tryd.func58, Tryd.ntmps58
          go_wp2_with fail
          refine EN.out.mono ?_
          rintro x w2 ⟨rfl, hB2⟩
          have hC2 := HB0.out.trans (hB2.mono HB0.out.size)
          have hv := HCV.out w2 hC2
          go_wp2
          go_ret3
          exact ⟨rfl, hC2⟩
set_option maxRecDepth 100000 in
set_option maxHeartbeats 4000000 in
theorem rread_any (plain : Bool) (A : Option Addr) (n cp : Nat) (at_ : Int) (xs : List Int) (w : World) (hn : n ≤ 140737488355328) (hcp : n ≤ cp) (hcp2 : cp ≤ 9223372036854775807) (hb : BytesAt w A n xs) :
    Calls Tryd.prog 48 #[.slice A n cp, .int .i64 at_, .bool plain] w (TellRead (readN xs plain at_) w) := by
  rcases Int.lt_or_le at_ 0 with h0 | h0
  · rw [readN_out xs plain at_ (.inl h0)]
    clear hb
    go_enter Tryd.func48, Tryd.ntmps48
    go_wp2
    go_ret3
    exact ⟨rfl, Below.refl _ _⟩
  · rcases Int.lt_or_le (n : Int) at_ with h1 | h1
    · rw [readN_out xs plain at_ (.inr (by rw [hb.1]; exact h1))]
      have t1 : decide ((n : Int) < at_) = true := by simpa using h1
      have t0 : decide (at_ < (0 : Int)) = false := by simp; omega
      clear hb
      go_enter Tryd.func48, Tryd.ntmps48
      go_wp2
      all_goals
        go_ret3
        exact ⟨rfl, Below.refl _ _⟩
    · obtain ⟨i, rfl⟩ : ∃ i : Nat, at_ = i := ⟨at_.toNat, by omega⟩
      have hi : i ≤ n := by omega
      have EN := Lib.hid (rend_any plain A n cp i xs w hn hb hi)
      have hr := endN_b xs plain true i (by rw [hb.1]; exact hi)
      rw [hb.1] at hr
      have HB := Lib.hid hb
      have XL : Hid (i ≤ xs.length) := by rw [hb.1]; exact hi
      by_cases e0 : endN xs plain true i = i
      · rw [readN_none xs plain i XL.out e0]
        rw [e0] at EN
        clear hb e0 hr
        go_enter Tryd.func48, Tryd.ntmps48
        go_wp2_with fail
        refine EN.out.mono ?_
        rintro x w2 ⟨rfl, hB2⟩
        go_wp2
        go_ret3
        exact ⟨rfl, hB2⟩
      · by_cases e1 : 1024 < endN xs plain true i - i
        · rw [readN_long xs plain i XL.out e0 e1]
          generalize endN xs plain true i = j at *
          have t1 : ((j : Int) == (i : Int)) = false := by simp; omega
          have t2 : decide ((1024 : Int) < (j : Int) - (i : Int)) = true := by simp; omega
          clear hb
          go_enter Tryd.func48, Tryd.ntmps48
          go_wp2_with fail
          refine EN.out.mono ?_
          rintro x w2 ⟨rfl, hB2⟩
          go_wp2
          go_ret3
          exact ⟨rfl, hB2⟩
        · rw [readN_ok xs plain i XL.out e0 e1]
          generalize endN xs plain true i = j at *
          have t1 : ((j : Int) == (i : Int)) = false := by simp; omega
          have t2 : decide ((1024 : Int) < (j : Int) - (i : Int)) = false := by simp; omega
          have hij : i < j := by omega
          obtain ⟨a, _, rfl, _⟩ := hb.2 i (by omega)
          have hcv := fun V (h : Below w.heap.size w V) (c' : Nat) => convB V (some (a.add i)) (j - i) c' (cut xs i j) ((HB.out.below h).sub (by omega) (by omega))
          have HCV := Lib.hid hcv
          have b0 : j ≤ cp := by omega
          have b1 : (i : Int) ≤ (j : Int) := by omega
          have b2 : (j : Int) ≤ (cp : Int) := by omega
          have b3 : ¬ cp = i := by omega
          clear hb hcv
          go_enter Tryd.func48, Tryd.ntmps48
          go_wp2_with fail
          refine EN.out.mono ?_
          rintro x w2 ⟨rfl, hB2⟩
          have hv := HCV.out w2 hB2
          go_wp2
          go_ret3
          exact ⟨rfl, hB2⟩
end Go.Proofs.YtkeclfhhilphpaaDoor
