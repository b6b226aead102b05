/- The contracts of Name, Plain, IsName, IsPlain, IsToken, Blanks, and of the reference's Read, Is, Blanks. Conditions: the tables of chars and of utf hold what the text gives them. -/
import Derived.Test.YtlifdmehejehjaaDoorNameEnd
import Derived.Test.YtlifdmehejehjaaDoorBytesStr
import Derived.Test.YtlifdmehejehjaaDoorStrEq
import Derived.Lib.ConvBytes
namespace Go.Proofs.YtlifdmehejehjaaDoor
open Go.RowKit Go.Proofs.YtlifdmehejehjaaDoor.UtfPlain Go.Proofs.YtlifdmehejehjaaDoor.CharsPlain Go.Proofs.YtlifdmehejehjaaDoor.NamePlain
/-- A text's bytes as numbers. -/
def bsOf (s : ByteArray) : List Int := s.data.toList.map fun b => (b.toNat : Int)
theorem bsOf_len (s : ByteArray) : (bsOf s).length = s.size := by unfold bsOf; rw [List.length_map, Array.length_toList]; rfl
theorem bsOf_b (s : ByteArray) : ∀ x ∈ bsOf s, 0 ≤ x ∧ x ≤ 255 := by
  intro x hx
  obtain ⟨b, _, rfl⟩ := List.mem_map.1 hx
  have := b.toNat_lt
  omega
theorem strOf_bsOf (s : ByteArray) : strOfNums (bsOf s) = s := by
  apply Go.WideShapes.bytes_inj
  unfold strOfNums bsOf
  simp [List.map_map, Function.comp_def]
theorem bsOf_strOf (xs : List Int) (h : ∀ x ∈ xs, 0 ≤ x ∧ x ≤ 255) : bsOf (strOfNums xs) = xs := by
  unfold bsOf strOfNums
  simp only [List.map_map]
  apply List.ext_getElem (by simp)
  intro i h1 h2
  have hb := h xs[i] (List.getElem_mem h2)
  simp
  omega
theorem bytesWorld_below (w : World) (s : ByteArray) : Below w.heap.size w (Lib.bytesWorld w 5 s) :=
  ⟨by unfold Lib.bytesWorld World.freeze; split <;> rfl, by unfold Lib.bytesWorld World.freeze; split <;> rfl, by unfold Lib.bytesWorld World.freeze; split <;> rfl, by rw [Lib.bytesWorld_size]; omega, fun k hk => Lib.bytesWorld_at_old w _ s k hk⟩
theorem bytesWorld_bytes (w : World) (s : ByteArray) : BytesAt (Lib.bytesWorld w 5 s) (some ⟨w.heap.size, 0, none⟩) s.size (bsOf s) := by
  refine ⟨bsOf_len s, fun k hk => ?_⟩
  have hk' : k < (bsOf s).length := by rw [bsOf_len]; exact hk
  have hb := bsOf_b s _ (List.getElem_mem hk')
  refine ⟨_, (bsOf s)[k], rfl, List.getElem?_eq_getElem hk', hb.1, hb.2, by show w.heap.size < _; rw [Lib.bytesWorld_size]; omega, ?_⟩
  have ha : (⟨w.heap.size, 0, none⟩ : Addr).add k = ⟨w.heap.size, k, none⟩ := by unfold Addr.add; split <;> simp_all
  rw [ha, Lib.bytesWorld_cell w _ s k hk]
  have hkd : k < s.data.toList.length := by rw [Array.length_toList]; exact hk
  simp only [bsOf, List.getElem_map, List.getD_eq_getElem?_getD, List.getElem?_eq_getElem hkd, Option.getD_some]
theorem BytesAt.sub {w : World} {a : Addr} {n i j : Nat} {xs : List Int} (h : BytesAt w (some a) n xs) (hij : i ≤ j) (hj : j ≤ n) : BytesAt w (some (a.add i)) (j - i) (cut xs i j) := by
  refine ⟨by unfold cut; rw [List.length_take, List.length_drop, h.1]; omega, fun k hk => ?_⟩
  obtain ⟨b, x, h1, h2, h3, h4, h5, h6⟩ := h.2 (i + k) (by omega)
  cases h1
  refine ⟨_, x, rfl, ?_, h3, h4, by rw [addBlock]; exact h5, by rw [addAdd]; exact h6⟩
  unfold cut
  rw [List.getElem?_take, if_pos hk, List.getElem?_drop]
  exact h2
def TellRead (r : List Int × Int × Int) (w : World) (e : Ending) (w' : World) : Prop := e = .returned (.tuple #[.string (strOfNums r.1), .int .i64 r.2.1, .int .i64 r.2.2]) ∧ Below w.heap.size w w'
theorem readN_out (bs : List Int) (plain : Bool) (at_ : Int) (h : at_ < 0 ∨ (bs.length : Int) < at_) : readN bs plain at_ = ([], 0, 3) := by unfold readN; rw [if_pos h]
theorem readN_none (bs : List Int) (plain : Bool) (i : Nat) (hi : i ≤ bs.length) (h : endN bs plain true i = i) : readN bs plain i = ([], 0, 7) := by
  unfold readN; rw [if_neg (by omega), if_pos (by simpa using h)]
theorem readN_long (bs : List Int) (plain : Bool) (i : Nat) (hi : i ≤ bs.length) (h : ¬ endN bs plain true i = i) (h2 : 1024 < endN bs plain true i - i) : readN bs plain i = ([], 0, 11) := by
  unfold readN; rw [if_neg (by omega), if_neg (by simpa using h), if_pos (by simpa using h2)]
theorem readN_ok (bs : List Int) (plain : Bool) (i : Nat) (hi : i ≤ bs.length) (h : ¬ endN bs plain true i = i) (h2 : ¬ 1024 < endN bs plain true i - i) : readN bs plain (i : Int) = (cut bs i (endN bs plain true i), ((endN bs plain true i : Nat) : Int), 0) := by
  unfold readN; rw [if_neg (by omega), Int.toNat_natCast, if_neg h, if_neg h2]
--GEN
set_option maxRecDepth 100000 in
set_option maxHeartbeats 4000000 in
theorem whole0_any (plain : Bool) (f1 f2 : FuncId) (s : ByteArray) (w : World) (hs : s.size ≤ 1099511627776) (hf : FormsAt w) (hm1 : MayF0 f1 (mayK true plain) w) (hm2 : MayF0 f2 (mayK false plain) w) :
    Calls Tryd.prog 52 #[.agg #[(.func (.func f1) #[] #[]), (.func (.func f2) #[] #[])], .string s] w (BelB (isN (bsOf s) plain) w) := by
  obtain ⟨W, hW, hB0, hs0, c0, c1⟩ := sortBox w (.func (.func f1) #[] #[]) (.func (.func f2) #[] #[]) 105
  have HB0 := Lib.hid hB0
  by_cases h0 : s = ⟨#[]⟩
  · subst h0
    clear hf hm1 hm2 hB0
    go_enter Tryd.func52, Tryd.ntmps52
    go_wp2
    go_ret
    exact ⟨rfl, HB0.out⟩
  · have q0 := strEmpty_no h0
    have hpos : 0 < s.size := by
      rcases Nat.eq_zero_or_pos s.size with h | h
      · exact absurd (by apply Go.WideShapes.bytes_inj; have h' : s.data.toList.length = 0 := by rw [Array.length_toList]; exact h
                         rw [List.eq_nil_of_length_eq_zero h']) h0
      · exact h
    have hcv := fun V => Lib.run_convert_string_bytes (P := Tryd.prog) V 9 90 5 s Tryd.underlying9 Tryd.underlying90 Tryd.underlying5
    have hC := HB0.out.trans ((bytesWorld_below W s).mono HB0.out.size)
    have hg1 := grownCap_ge W s.size 0 5
    have hg2 := grownCap_le_maxLen W s.size 0 5 (by unfold maxLen; omega)
    have EN := Lib.hid (end0_any plain f1 f2 (some ⟨W.heap.size, 0, none⟩) s.size (grownCap W s.size 0 5) 0 (bsOf s) _ (by omega) hg1 (by unfold maxLen at hg2; omega) (bytesWorld_bytes W s) (hf.below hC hf.size) (hm1.below hC) (hm2.below hC) (by omega))
    have HC := Lib.hid hC
    have R : Hid ((((endN (bsOf s) plain true 0 : Nat) : Int) == (s.size : Int)) = isN (bsOf s) plain) := by
      show _ = _
      unfold isN
      rw [bsOf_len]
      simp only [hpos, decide_true, Bool.true_and]
      rw [Bool.eq_iff_iff]; simp; omega
    clear hf hm1 hm2 hB0 hg1 hg2 hC h0
    go_enter Tryd.func52, Tryd.ntmps52
    go_wp2_with fail
    refine EN.out.mono ?_
    rintro x w2 ⟨rfl, hB2⟩
    go_wp2
    go_ret
    exact ⟨by rw [R.out]; rfl, HC.out.trans (hB2.mono HC.out.size)⟩
set_option maxRecDepth 100000 in
set_option maxHeartbeats 4000000 in
theorem whole1_any (plain : Bool) (f1 f2 : FuncId) (cap1 cap2 : Value) (s : ByteArray) (w : World) (hs : s.size ≤ 1099511627776) (hf : FormsAt w) (hm1 : MayF1 f1 cap1 (mayK true plain) w) (hm2 : MayF1 f2 cap2 (mayK false plain) w) :
    Calls Tryd.prog 52 #[.agg #[(.func (.func f1) #[] #[cap1]), (.func (.func f2) #[] #[cap2])], .string s] w (BelB (isN (bsOf s) plain) w) := by
  obtain ⟨W, hW, hB0, hs0, c0, c1⟩ := sortBox w (.func (.func f1) #[] #[cap1]) (.func (.func f2) #[] #[cap2]) 105
  have HB0 := Lib.hid hB0
  by_cases h0 : s = ⟨#[]⟩
  · subst h0
    clear hf hm1 hm2 hB0
    go_enter Tryd.func52, Tryd.ntmps52
    go_wp2
    go_ret
    exact ⟨rfl, HB0.out⟩
  · have q0 := strEmpty_no h0
    have hpos : 0 < s.size := by
      rcases Nat.eq_zero_or_pos s.size with h | h
      · exact absurd (by apply Go.WideShapes.bytes_inj; have h' : s.data.toList.length = 0 := by rw [Array.length_toList]; exact h
                         rw [List.eq_nil_of_length_eq_zero h']) h0
      · exact h
    have hcv := fun V => Lib.run_convert_string_bytes (P := Tryd.prog) V 9 90 5 s Tryd.underlying9 Tryd.underlying90 Tryd.underlying5
    have hC := HB0.out.trans ((bytesWorld_below W s).mono HB0.out.size)
    have hg1 := grownCap_ge W s.size 0 5
    have hg2 := grownCap_le_maxLen W s.size 0 5 (by unfold maxLen; omega)
    have EN := Lib.hid (end1_any plain f1 f2 cap1 cap2 (some ⟨W.heap.size, 0, none⟩) s.size (grownCap W s.size 0 5) 0 (bsOf s) _ (by omega) hg1 (by unfold maxLen at hg2; omega) (bytesWorld_bytes W s) (hf.below hC hf.size) (hm1.below hC) (hm2.below hC) (by omega))
    have HC := Lib.hid hC
    have R : Hid ((((endN (bsOf s) plain true 0 : Nat) : Int) == (s.size : Int)) = isN (bsOf s) plain) := by
      show _ = _
      unfold isN
      rw [bsOf_len]
      simp only [hpos, decide_true, Bool.true_and]
      rw [Bool.eq_iff_iff]; simp; omega
    clear hf hm1 hm2 hB0 hg1 hg2 hC h0
    go_enter Tryd.func52, Tryd.ntmps52
    go_wp2_with fail
    refine EN.out.mono ?_
    rintro x w2 ⟨rfl, hB2⟩
    go_wp2
    go_ret
    exact ⟨by rw [R.out]; rfl, HC.out.trans (hB2.mono HC.out.size)⟩
set_option maxRecDepth 100000 in
set_option maxHeartbeats 4000000 in
theorem ris_text (plain : Bool) (s : ByteArray) (w : World) (hs : s.size ≤ 1099511627776) :
    Calls Tryd.prog 31 #[.string s, .bool plain] w (BelB (isN (bsOf s) plain) w) := by
  by_cases h0 : s = ⟨#[]⟩
  · subst h0
    go_enter Tryd.func31, Tryd.ntmps31
    go_wp2
    go_ret
    exact ⟨rfl, Below.refl _ _⟩
  · have q0 := strEmpty_no h0
    have hpos : 0 < s.size := by
      rcases Nat.eq_zero_or_pos s.size with h | h
      · exact absurd (by apply Go.WideShapes.bytes_inj; have h' : s.data.toList.length = 0 := by rw [Array.length_toList]; exact h
                         rw [List.eq_nil_of_length_eq_zero h']) h0
      · exact h
    have hcv := fun V => Lib.run_convert_string_bytes (P := Tryd.prog) V 9 90 5 s Tryd.underlying9 Tryd.underlying90 Tryd.underlying5
    have hC := bytesWorld_below w s
    have EN := Lib.hid (rend_any plain (some ⟨w.heap.size, 0, none⟩) s.size (grownCap w s.size 0 5) 0 (bsOf s) _ (by omega) (bytesWorld_bytes w s) (by omega))
    have HC := Lib.hid hC
    have R : Hid ((((endN (bsOf s) plain true 0 : Nat) : Int) == (s.size : Int)) = isN (bsOf s) plain) := by
      show _ = _
      unfold isN
      rw [bsOf_len]
      simp only [hpos, decide_true, Bool.true_and]
      rw [Bool.eq_iff_iff]; simp; omega
    clear hC h0
    go_enter Tryd.func31, Tryd.ntmps31
    go_wp2_with fail
    refine EN.out.mono ?_
    rintro x w2 ⟨rfl, hB2⟩
    go_wp2
    go_ret
    exact ⟨by rw [R.out]; rfl, HC.out.trans (hB2.mono HC.out.size)⟩
end Go.Proofs.YtlifdmehejehjaaDoor
