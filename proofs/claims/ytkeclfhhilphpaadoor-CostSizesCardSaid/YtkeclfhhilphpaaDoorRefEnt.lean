/- The contracts of cref.Entity and of the reference's Entity. Conditions: the tables of chars and of utf hold what the text gives them; the place is within the bytes. -/
import Derived.Test.YtkeclfhhilphpaaDoorNamePart
import Derived.Test.YtkeclfhhilphpaaDoorRefPlain
namespace Go.Proofs.YtkeclfhhilphpaaDoor
open Go.RowKit Go.Proofs.YtkeclfhhilphpaaDoor.UtfPlain Go.Proofs.YtkeclfhhilphpaaDoor.CharsPlain Go.Proofs.YtkeclfhhilphpaaDoor.NamePlain Go.Proofs.YtkeclfhhilphpaaDoor.RefPlain
def TellEnt (r : List Int × Nat × Int) (w : World) (e : Ending) (w' : World) : Prop := e = .returned (.tuple #[.string (strOfNums r.1), .int .i64 (r.2.1 : Nat), .int .i64 r.2.2]) ∧ Below w.heap.size w w'
theorem byte_at {w : World} {A : Option Addr} {n k : Nat} {xs : List Int} (h : BytesAt w A n xs) (hk : k < n) : ∃ a, A = some a ∧ w.cell? (a.add k) = some (.int .u8 (xs.getD k 0)) := by
  obtain ⟨a, x, h1, h2, _, _, _, h6⟩ := h.2 k hk
  exact ⟨a, h1, by rw [List.getD_eq_getElem?_getD, h2]; exact h6⟩
/-- What reading a name behind a mark says. -/
theorem readN_cases (bs : List Int) (i : Nat) (hi : i ≤ bs.length) :
    (∃ e : Int, ¬ e = 0 ∧ readN bs true (i : Int) = ([], 0, e)) ∨ (readN bs true (i : Int) = (cut bs i (endN bs true true i), ((endN bs true true i : Nat) : Int), 0) ∧ i < endN bs true true i) := by
  have hb := endN_b bs true true i hi
  by_cases h : endN bs true true i = i
  · exact .inl ⟨7, by omega, readN_none bs true i hi h⟩
  · by_cases h2 : 1024 < endN bs true true i - i
    · exact .inl ⟨11, by omega, readN_long bs true i hi h h2⟩
    · exact .inr ⟨readN_ok bs true i hi h h2, by omega⟩
set_option maxRecDepth 100000 in
set_option maxHeartbeats 4000000 in
theorem crd_any (A : Option Addr) (n cp i : Nat) (mark : Int) (xs : List Int) (w : World) (hn : n ≤ 140737488355328) (hcp : n ≤ cp) (hcp2 : cp ≤ 9223372036854775807) (hb : BytesAt w A n xs) (hi : i ≤ n) (hf : FormsAt w) (ht : Tabs w) :
    Calls Tryd.prog 51 #[.slice A n cp, .int .i64 i, .int .u8 mark] w (TellEnt (entN xs mark i) w) := by
  have BX := Lib.hid hb
  have HL := Lib.hid hb.1
  have t0 : decide ((n : Int) < (i : Int)) = false := by simp; omega
  have HF := Lib.hid hf
  have HT := Lib.hid ht
  clear hf ht hb
  by_cases he : i = n
  · subst he
    rw [entN_off xs mark i (.inl HL.out.symm)]
    go_enter Tryd.func51, Tryd.ntmps51
    go_wp2
    go_ret3
    exact ⟨rfl, Below.refl _ _⟩
  · have hlt : i < n := by omega
    obtain ⟨a, rfl, hcell⟩ := byte_at BX.out hlt
    obtain ⟨z, hzz⟩ : ∃ z, xs.getD i 0 = z := ⟨_, rfl⟩
    rw [hzz] at hcell
    have t1 : ((i : Int) == (n : Int)) = false := by simp; omega
    have t9 : (i : Int) < (n : Int) := by omega
    by_cases hm : z = mark
    · subst hm
      have hm := hzz
      have hxl : i + 1 ≤ xs.length := by rw [HL.out]; omega
      have N0 := plainAt_any (some a) n cp ((i : Int) + 1) xs w hn hcp hcp2 BX.out HF.out HT.out
      have t2 : (z != z) = false := by simp
      rcases readN_cases xs (i + 1) hxl with ⟨e, he0, hr⟩ | ⟨hr, hpos⟩
      · rw [show (((i + 1 : Nat) : Int)) = (i : Int) + 1 by omega] at hr
        rw [hr] at N0
        have NN := Lib.hid N0
        rw [entN_err xs z i (by omega) hm (by rw [hr]; exact he0), hr]
        have t3 : (e != 0) = true := by simpa using he0
        clear N0 hr hm he0 hzz
        go_enter Tryd.func51, Tryd.ntmps51
        go_wp2_with fail
        refine NN.out.mono ?_
        rintro x w2 ⟨rfl, hB2⟩
        go_wp2
        go_ret3
        exact ⟨rfl, hB2⟩
      · rw [show (((i + 1 : Nat) : Int)) = (i : Int) + 1 by omega] at hr
        rw [hr] at N0
        have NN := Lib.hid N0
        have hjb := (endN_b xs true true (i + 1) hxl).2
        rw [HL.out] at hjb
        by_cases h3 : endN xs true true (i + 1) = xs.length ∨ ¬ xs.getD (endN xs true true (i + 1)) 0 = 59
        · rw [entN_open xs z i (by omega) hm (by rw [hr]) h3]
          rw [HL.out] at h3
          generalize endN xs true true (i + 1) = j at *
          clear N0 hr hm
          by_cases hj : j = n
          · subst hj
            go_enter Tryd.func51, Tryd.ntmps51
            go_wp2_with fail
            refine NN.out.mono ?_
            rintro x w2 ⟨rfl, hB2⟩
            go_wp2
            go_ret3
            exact ⟨rfl, hB2⟩
          · obtain ⟨y, hy⟩ : ∃ y, xs.getD j 0 = y := ⟨_, rfl⟩
            have h59 : ¬ y = 59 := by rw [← hy]; rcases h3 with h | h; exact absurd h hj; exact h
            have Y := Lib.hid hy
            have t4 : ((j : Int) == (n : Int)) = false := by simp; omega
            have t5 : (y != 59) = true := by simpa using h59
            have t6 : (j : Int) < (n : Int) := by omega
            have t7 : (0 : Int) ≤ (j : Int) := by omega
            clear h3 h59 hy hzz
            go_enter Tryd.func51, Tryd.ntmps51
            go_wp2_with fail
            refine NN.out.mono ?_
            rintro x w2 ⟨rfl, hB2⟩
            obtain ⟨a2, ha2, hcell2⟩ := byte_at (BX.out.below hB2) (show j < n by omega)
            cases ha2
            rw [Y.out] at hcell2
            go_wp2
            go_ret3
            exact ⟨rfl, hB2⟩
        · rw [entN_ok xs z i (by omega) hm (by rw [hr]) h3]
          rw [HL.out] at h3
          generalize endN xs true true (i + 1) = j at *
          clear N0 hr hm
          have hj : ¬ j = n := fun e => h3 (.inl e)
          have h59 : xs.getD j 0 = 59 := by
            by_cases e : xs.getD j 0 = 59
            · exact e
            · exact absurd (.inr e) h3
          have t4 : ((j : Int) == (n : Int)) = false := by simp; omega
          have t6 : (j : Int) < (n : Int) := by omega
          have t7 : (0 : Int) ≤ (j : Int) := by omega
          have B59 := Lib.hid h59
          clear h3 h59 hzz
          go_enter Tryd.func51, Tryd.ntmps51
          go_wp2_with fail
          refine NN.out.mono ?_
          rintro x w2 ⟨rfl, hB2⟩
          obtain ⟨a2, ha2, hcell2⟩ := byte_at (BX.out.below hB2) (show j < n by omega)
          cases ha2
          rw [B59.out] at hcell2
          go_wp2
          go_ret3
          exact ⟨by simp, hB2⟩
    · rw [entN_off xs mark i (.inr (by rw [hzz]; exact hm))]
      have t2 : (z != mark) = true := by simpa using hm
      clear hm hzz
      go_enter Tryd.func51, Tryd.ntmps51
      go_wp2
      go_ret3
      exact ⟨rfl, Below.refl _ _⟩
set_option maxRecDepth 100000 in
set_option maxHeartbeats 4000000 in
theorem rent_any (A : Option Addr) (n cp i : Nat) (mark : Int) (xs : List Int) (w : World) (hn : n ≤ 140737488355328) (hcp : n ≤ cp) (hcp2 : cp ≤ 9223372036854775807) (hb : BytesAt w A n xs) (hi : i ≤ n) :
    Calls Tryd.prog 39 #[.slice A n cp, .int .i64 i, .int .u8 mark] w (TellEnt (entN xs mark i) w) := by
  have BX := Lib.hid hb
  have HL := Lib.hid hb.1
  have t0 : decide ((n : Int) < (i : Int)) = false := by simp; omega
  clear hb
  by_cases he : i = n
  · subst he
    rw [entN_off xs mark i (.inl HL.out.symm)]
    go_enter Tryd.func39, Tryd.ntmps39
    go_wp2
    go_ret3
    exact ⟨rfl, Below.refl _ _⟩
  · have hlt : i < n := by omega
    obtain ⟨a, rfl, hcell⟩ := byte_at BX.out hlt
    obtain ⟨z, hzz⟩ : ∃ z, xs.getD i 0 = z := ⟨_, rfl⟩
    rw [hzz] at hcell
    have t1 : ((i : Int) == (n : Int)) = false := by simp; omega
    have t9 : (i : Int) < (n : Int) := by omega
    by_cases hm : z = mark
    · subst hm
      have hm := hzz
      have hxl : i + 1 ≤ xs.length := by rw [HL.out]; omega
      have N0 := rread_any true (some a) n cp ((i : Int) + 1) xs w hn hcp hcp2 BX.out
      have t2 : (z != z) = false := by simp
      rcases readN_cases xs (i + 1) hxl with ⟨e, he0, hr⟩ | ⟨hr, hpos⟩
      · rw [show (((i + 1 : Nat) : Int)) = (i : Int) + 1 by omega] at hr
        rw [hr] at N0
        have NN := Lib.hid N0
        rw [entN_err xs z i (by omega) hm (by rw [hr]; exact he0), hr]
        have t3 : (e != 0) = true := by simpa using he0
        clear N0 hr hm he0 hzz
        go_enter Tryd.func39, Tryd.ntmps39
        go_wp2_with fail
        refine NN.out.mono ?_
        rintro x w2 ⟨rfl, hB2⟩
        go_wp2
        go_ret3
        exact ⟨rfl, hB2⟩
      · rw [show (((i + 1 : Nat) : Int)) = (i : Int) + 1 by omega] at hr
        rw [hr] at N0
        have NN := Lib.hid N0
        have hjb := (endN_b xs true true (i + 1) hxl).2
        rw [HL.out] at hjb
        by_cases h3 : endN xs true true (i + 1) = xs.length ∨ ¬ xs.getD (endN xs true true (i + 1)) 0 = 59
        · rw [entN_open xs z i (by omega) hm (by rw [hr]) h3]
          rw [HL.out] at h3
          generalize endN xs true true (i + 1) = j at *
          clear N0 hr hm
          by_cases hj : j = n
          · subst hj
            go_enter Tryd.func39, Tryd.ntmps39
            go_wp2_with fail
            refine NN.out.mono ?_
            rintro x w2 ⟨rfl, hB2⟩
            go_wp2
            go_ret3
            exact ⟨rfl, hB2⟩
          · obtain ⟨y, hy⟩ : ∃ y, xs.getD j 0 = y := ⟨_, rfl⟩
            have h59 : ¬ y = 59 := by rw [← hy]; rcases h3 with h | h; exact absurd h hj; exact h
            have Y := Lib.hid hy
            have t4 : ((j : Int) == (n : Int)) = false := by simp; omega
            have t5 : (y != 59) = true := by simpa using h59
            have t6 : (j : Int) < (n : Int) := by omega
            have t7 : (0 : Int) ≤ (j : Int) := by omega
            clear h3 h59 hy hzz
            go_enter Tryd.func39, Tryd.ntmps39
            go_wp2_with fail
            refine NN.out.mono ?_
            rintro x w2 ⟨rfl, hB2⟩
            obtain ⟨a2, ha2, hcell2⟩ := byte_at (BX.out.below hB2) (show j < n by omega)
            cases ha2
            rw [Y.out] at hcell2
            go_wp2
            go_ret3
            exact ⟨rfl, hB2⟩
        · rw [entN_ok xs z i (by omega) hm (by rw [hr]) h3]
          rw [HL.out] at h3
          generalize endN xs true true (i + 1) = j at *
          clear N0 hr hm
          have hj : ¬ j = n := fun e => h3 (.inl e)
          have h59 : xs.getD j 0 = 59 := by
            by_cases e : xs.getD j 0 = 59
            · exact e
            · exact absurd (.inr e) h3
          have t4 : ((j : Int) == (n : Int)) = false := by simp; omega
          have t6 : (j : Int) < (n : Int) := by omega
          have t7 : (0 : Int) ≤ (j : Int) := by omega
          have B59 := Lib.hid h59
          clear h3 h59 hzz
          go_enter Tryd.func39, Tryd.ntmps39
          go_wp2_with fail
          refine NN.out.mono ?_
          rintro x w2 ⟨rfl, hB2⟩
          obtain ⟨a2, ha2, hcell2⟩ := byte_at (BX.out.below hB2) (show j < n by omega)
          cases ha2
          rw [B59.out] at hcell2
          go_wp2
          go_ret3
          exact ⟨by simp, hB2⟩
    · rw [entN_off xs mark i (.inr (by rw [hzz]; exact hm))]
      have t2 : (z != mark) = true := by simpa using hm
      clear hm hzz
      go_enter Tryd.func39, Tryd.ntmps39
      go_wp2
      go_ret3
      exact ⟨rfl, Below.refl _ _⟩
theorem entity_any (A : Option Addr) (n cp i : Nat) (xs : List Int) (w : World) (hn : n ≤ 140737488355328) (hcp : n ≤ cp) (hcp2 : cp ≤ 9223372036854775807) (hb : BytesAt w A n xs) (hi : i ≤ n) (hf : FormsAt w) (ht : Tabs w) :
    Calls Tryd.prog 47 #[.slice A n cp, .int .i64 i] w (TellEnt (entN xs 38 i) w) := by
  have C := Lib.hid (crd_any A n cp i 38 xs w hn hcp hcp2 hb hi hf ht)
  clear hb hf ht
  go_enter Tryd.func47, Tryd.ntmps47
  go_wp2_with fail
  refine C.out.mono ?_
  rintro x w2 ⟨rfl, hB2⟩
  go_wp2
  go_ret3
  exact ⟨rfl, hB2⟩
end Go.Proofs.YtkeclfhhilphpaaDoor
