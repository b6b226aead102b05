/- The walk of RefsCuts. Conditions: the tables of chars and of utf hold what the text gives them. -/
import Derived.Test.YtehnpoeegoionaaDoorRefLive
namespace Go.Proofs.YtehnpoeegoionaaDoor
open Go.RowKit Go.Proofs.YtehnpoeegoionaaDoor.UtfPlain Go.Proofs.YtehnpoeegoionaaDoor.CharsPlain Go.Proofs.YtehnpoeegoionaaDoor.NamePlain Go.Proofs.YtehnpoeegoionaaDoor.RefPlain
set_option maxRecDepth 100000 in
set_option maxHeartbeats 8000000 in
theorem refsCuts_any (s : ByteArray) (w : World) (hf : FormsAt w) (ht : Tabs w) : Calls Tryd.prog 3 #[.string s] w (BelB true w) := by
  have HF := Lib.hid hf
  have HT := Lib.hid ht
  by_cases hs : s.size ≤ 500
  · have C1 := Lib.hid (refCut_any s w (by omega) hf ht)
    clear hf ht
    go_enter Tryd.func3, Tryd.ntmps3
    go_wp2_with fail
    refine C1.out.mono ?_
    rintro e w1 ⟨A, c, rfl, hrow, hB1⟩
    have hl := TsAt.of_own hrow
    have HL := Lib.hid hl
    have HB1 := Lib.hid hB1
    clear hrow hl hB1 C1
    go_wp2_with fail
    refine (rall18_any s w1 (by omega)).mono ?_
    rintro e w2 ⟨A2, c2, rfl, hm, hB2⟩
    have L := Lib.hid (HL.out.below hB2)
    have M := Lib.hid hm
    have HB := Lib.hid (HB1.out.trans (hB2.mono HB1.out.size))
    clear hm hB2 HL HB1
    have hcl := cutsN_len s
    have hrl := refsN_len (bsOf s)
    rw [bsOf_len] at hrl
    rw [hcl] at L ⊢
    obtain ⟨r, hr⟩ : ∃ r, refsN (bsOf s) = r := ⟨_, rfl⟩
    have RS := Lib.hid hr
    obtain ⟨n, hn⟩ : ∃ n, r.length = n := ⟨_, rfl⟩
    have NS := Lib.hid hn
    rw [hr, hn] at L M hrl ⊢
    clear hcl hr hn
    have b9 : (n : Int) ≤ 501 := by omega
    go_wp2
    go_loopw [5, 6] (fun al i wr => ∃ (k : Nat), k ≤ n + 1 ∧ i = .int .i64 k ∧ al = .string (glS s k) ∧ wr = w2) (fun _ i _ => n + 1 - (intOf i).toNat)
    case atStart => exact ⟨0, by omega, rfl, by rw [glS_zero], rfl⟩
    case round =>
      obtain ⟨k, hk, rfl, rfl, rfl⟩ := hrel
      by_cases hlt : k < n + 1
      · obtain ⟨a, y, ha, hy, _, g0⟩ := L.out.2 k hlt
        subst ha
        by_cases hkn : k < n
        · obtain ⟨a2, x, ha2, hx, _, _, _, g3⟩ := M.out.2 k hkn
          subst ha2
          obtain ⟨p, p1, p2, p3, e1, e2, e3, e4⟩ := gl_step s k x (by rw [RS.out]; exact hx)
          rw [e2] at hy
          have hy := Option.some.inj hy
          subst hy
          have z1 := ext_sz s 0 p (by omega)
          have z2 := ext_sz s p x.a (by omega)
          have z3 := ext_sz s 0 x.a (by omega)
          have z4 := ext_sz s x.a x.b (by omega)
          have hz : (⟨#[38]⟩ : ByteArray).size = 1 := rfl
          have hz2 : (⟨#[59]⟩ : ByteArray).size = 1 := rfl
          have z5 : (strOfNums x.s).size ≤ 500 := by
            rw [e4, ByteArray.size_append, ByteArray.size_append, hz, hz2] at z4; omega
          have z6 : (s.extract 0 x.a ++ ⟨#[38]⟩).size ≤ 501 := by rw [ByteArray.size_append, hz, z3]; omega
          have z7 : (s.extract 0 x.a ++ ⟨#[38]⟩ ++ strOfNums x.s).size ≤ 1001 := by rw [ByteArray.size_append]; omega
          have eG : s.extract 0 x.a ++ ⟨#[38]⟩ ++ strOfNums x.s ++ ⟨#[59]⟩ = s.extract 0 x.b := by
            rw [← ext_glue s x.a x.b (by omega), e4, ByteArray.append_assoc, ByteArray.append_assoc, ByteArray.append_assoc]
          have hS1 := fun w' => run_string_add (P := Tryd.prog) w' (s.extract 0 p) (s.extract p x.a) (by omega) (by omega)
          have hS2 := fun w' => run_string_add (P := Tryd.prog) w' (s.extract 0 x.a) ⟨#[38]⟩ (by omega) (by rw [hz]; omega)
          have hS3 := fun w' => run_string_add (P := Tryd.prog) w' (s.extract 0 x.a ++ ⟨#[38]⟩) (strOfNums x.s) (by omega) (by omega)
          have hS4 := fun w' => run_string_add (P := Tryd.prog) w' (s.extract 0 x.a ++ ⟨#[38]⟩ ++ strOfNums x.s) ⟨#[59]⟩ (by omega) (by rw [hz2]; omega)
          rw [ext_glue s p x.a p1] at hS1
          rw [eG] at hS4
          rw [e1]
          have E3 := Lib.hid e3
          clear e1 e2 e3 e4 eG z1 z2 z3 z4 z5 z6 z7 hz hz2 hx
          go_wp2
          go_roundw
          case rel => exact ⟨k + 1, by omega, by go_num, by rw [E3.out], trivial⟩
          case measure => simp [intOf]; omega
        · obtain rfl : k = n := by omega
          obtain ⟨p, p1, e1, e2⟩ := gl_last s
          rw [RS.out, NS.out] at e1 e2
          rw [e2] at hy
          have hy := Option.some.inj hy
          subst hy
          have z1 := ext_sz s 0 p (by omega)
          have z2 := ext_sz s p s.size (Nat.le_refl _)
          have hS1 := fun w' => run_string_add (P := Tryd.prog) w' (s.extract 0 p) (s.extract p s.size) (by omega) (by omega)
          rw [ext_glue s p s.size p1, ext_all] at hS1
          rw [e1]
          have E3 : Hid (glS s (k + 1) = s) := by show _ = _; rw [← NS.out, ← RS.out]; exact glS_end s
          clear e1 e2 z1 z2
          go_wp2
          go_roundw
          case rel => exact ⟨k + 1, by omega, by go_num, by rw [E3.out], trivial⟩
          case measure => simp [intOf]
      · obtain rfl : k = n + 1 := by omega
        have E3 : glS s (n + 1) = s := by rw [← NS.out, ← RS.out]; exact glS_end s
        rw [E3]
        have t0 := sL_yes s
        have V := Lib.hid (live18_any _ (HF.out.below HB.out HF.out.size) (HT.out.below HB.out HT.out.size))
        go_wp2_with fail
        refine V.out.mono ?_
        rintro e w3 ⟨rfl, hB3⟩
        have HC := Lib.hid (HB.out.trans (hB3.mono HB.out.size))
        clear hB3
        go_wp2
        go_ret
        exact ⟨rfl, HC.out⟩
  · go_enter Tryd.func3, Tryd.ntmps3
    go_wp2_with fail
    refine (live18_any w hf ht).mono ?_
    rintro e w1 ⟨rfl, hB⟩
    go_wp2
    go_ret
    exact ⟨rfl, hB⟩
end Go.Proofs.YtehnpoeegoionaaDoor
