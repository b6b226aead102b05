/- The contracts of allow.parted, Norm, Right, means, Match and of the reference's Norm and Match. Conditions: at most 2^20 bytes; internal/bytealg.MaxLen holds an int. -/
import Derived.Test.YtkneafpmgbgalaaGreatDoorUriNormsLaw
namespace Go.Proofs.YtkneafpmgbgalaaGreatDoor
open Go.RowKit Go.Proofs.YtkneafpmgbgalaaGreatDoor.CharsPlain Go.Proofs.YtkneafpmgbgalaaGreatDoor.UriPlain
set_option linter.unusedVariables false
set_option linter.unusedSimpArgs false
/-- Does a pattern mean all that lies below; its identifier. -/
def belP (l : List UInt8) : Bool := Lib.hasSuffix l [47, 42]
def patS (l : List UInt8) : List UInt8 := if belP l then l.take (l.length - 1) else l
def anormE (l : List UInt8) : Int := uriE (patS l)
def anormT (l : List UInt8) : List UInt8 := normU (patS l) ++ (if decide (anormE l = 0) && belP l then [42] else [])
def hitB (e : Int) (below : Bool) (s n : List UInt8) : Bool := decide (e = 0) && (if below then Lib.hasPrefix n s && decide (s.length < n.length) else n == s)
def meanB (p n : List UInt8) : Bool := hitB (anormE p) (belP p) (normU (patS p)) n
def matchB (p id : List UInt8) : Bool := decide (uriE id = 0) && meanB p (normU id)
theorem patS_len (l : List UInt8) : (patS l).length ≤ l.length := by unfold patS; split <;> simp
theorem belP_two {l : List UInt8} (h : belP l = true) : 2 ≤ l.length := by
  have := (List.isSuffixOf_iff_suffix.1 h).length_le
  simpa using this
theorem belP_trim {l : List UInt8} (h : belP l = true) : Lib.trimSuffix l [42] = l.take (l.length - 1) := by
  unfold Lib.trimSuffix
  have : Lib.hasSuffix l [42] = true := by
    unfold Lib.hasSuffix
    rw [List.isSuffixOf_iff_suffix]
    exact List.IsSuffix.trans ⟨[47], rfl⟩ (List.isSuffixOf_iff_suffix.1 h)
  rw [if_pos this]; rfl
theorem belP_drop {l : List UInt8} (h : 2 ≤ l.length) : (l.drop (l.length - 2) == [47, 42]) = belP l := by
  unfold belP Lib.hasSuffix
  rw [Bool.eq_iff_iff, beq_iff_eq, List.isSuffixOf_iff_suffix]
  constructor
  · intro h1; rw [← h1]; exact List.drop_suffix _ _
  · intro h1
    have := List.suffix_iff_eq_drop.1 h1
    exact this.symm
theorem norm_size (l : List UInt8) : (normU l).length ≤ 12400 := by
  have h := uri_sizes2 l
  unfold normU
  split
  · unfold textU sep3; simp; omega
  · simp
def TellPart (t : ByteArray) (b : Bool) (w : World) (e : Ending) (w' : World) : Prop := e = .returned (.tuple #[.string t, .bool b]) ∧ w = w'
set_option maxRecDepth 100000 in
theorem parted_any (s : ByteArray) (w : World) (hs : s.size ≤ 1048576) : Calls Tryz.prog 46 #[.string s] w (TellPart (bS (patS s.data.toList)) (belP s.data.toList) w) := by
  cases hb : belP s.data.toList with
  | true =>
    have C1 := Tryz.strings_HasSuffix s ⟨#[47, 42]⟩ w (by omega)
    rw [show Lib.hasSuffix s.data.toList (ByteArray.mk #[47, 42]).data.toList = true from hb] at C1
    have C2 := Tryz.strings_TrimSuffix s ⟨#[42]⟩ w (by omega)
    rw [show Lib.trimSuffix s.data.toList (ByteArray.mk #[42]).data.toList = patS s.data.toList from (belP_trim hb).trans (by unfold patS; rw [if_pos hb])] at C2
    have C1 := Lib.hid C1
    have C2 := Lib.hid C2
    clear hb
    go_enter Tryz.func46, Tryz.ntmps46
    go_wp2_with fail
    refine C1.out.mono ?_
    rintro e w' ⟨rfl, rfl⟩
    go_wp2_with fail
    refine C2.out.mono ?_
    rintro e w' ⟨rfl, rfl⟩
    go_wp2
    go_ret2
    exact ⟨rfl, rfl⟩
  | false =>
    have C1 := Tryz.strings_HasSuffix s ⟨#[47, 42]⟩ w (by omega)
    rw [show Lib.hasSuffix s.data.toList (ByteArray.mk #[47, 42]).data.toList = false from hb] at C1
    have C1 := Lib.hid C1
    have HF : Hid (bS (patS s.data.toList) = s) := by show _ = _; unfold patS; rw [if_neg (by rw [hb]; decide)]; exact bS_of s
    clear hb
    go_enter Tryz.func46, Tryz.ntmps46
    go_wp2_with fail
    refine C1.out.mono ?_
    rintro e w' ⟨rfl, rfl⟩
    go_wp2
    go_ret2
    rw [HF.out]
    exact ⟨rfl, rfl⟩
set_option maxRecDepth 100000 in
set_option maxHeartbeats 1000000 in
theorem anorm_any (s : ByteArray) (w : World) (m : Int) (hs : s.size ≤ 1048576) (hm : w.cell? ⟨0, 0, none⟩ = some (.int .i64 m)) : Calls Tryz.prog 43 #[.string s] w (TellNorm2 (bS (anormT s.data.toList)) (anormE s.data.toList) w) := by
  obtain ⟨P, hP⟩ : ∃ P, P = bS (patS s.data.toList) := ⟨_, rfl⟩
  obtain ⟨b, hb⟩ : ∃ b, b = belP s.data.toList := ⟨_, rfl⟩
  obtain ⟨k, hk⟩ : ∃ k, k = anormE s.data.toList := ⟨_, rfl⟩
  obtain ⟨T, hT⟩ : ∃ T, T = bS (normU (patS s.data.toList)) := ⟨_, rfl⟩
  have C1 := parted_any s w hs
  rw [← hP, ← hb] at C1
  have hPd : P.data.toList = patS s.data.toList := by rw [hP]; rfl
  have C2 := Lib.hid (norm_is2 P T k w m hm (by rw [hPd, hT]) (by rw [hPd, hk]; rfl))
  have C1 := Lib.hid C1
  have hTs : T.size ≤ 12400 := by rw [hT, bS_size]; exact norm_size _
  have HF : Hid (bS (anormT s.data.toList) = if decide (k = 0) && b then T ++ ⟨#[42]⟩ else T) := by
    show _ = _
    unfold anormT
    rw [← hk, ← hb, hT]
    split
    · rw [show ByteArray.mk #[42] = bS [42] from rfl, bS_app]
    · simp
  have hS := fun w' => run_string_add (P := Tryz.prog) w' T ⟨#[42]⟩ (by omega) (by decide)
  have HK := Lib.hid hk
  rw [← hk]
  clear hP hb hk hT hPd hm
  by_cases hk0 : k = 0
  · subst hk0
    cases b with
    | true =>
      go_enter Tryz.func43, Tryz.ntmps43
      go_wp2_with fail
      refine C1.out.mono ?_
      rintro e w' ⟨rfl, rfl⟩
      go_wp2_with fail
      refine C2.out.mono ?_
      rintro e w2 ⟨rfl, hb2⟩
      go_wp2
      go_ret2
      rw [HF.out]
      exact ⟨rfl, hb2⟩
    | false =>
      go_enter Tryz.func43, Tryz.ntmps43
      go_wp2_with fail
      refine C1.out.mono ?_
      rintro e w' ⟨rfl, rfl⟩
      go_wp2_with fail
      refine C2.out.mono ?_
      rintro e w2 ⟨rfl, hb2⟩
      go_wp2
      go_ret2
      rw [HF.out]
      exact ⟨rfl, hb2⟩
  · have t1 : (k == 0) = false := by simpa using hk0
    have HF2 : Hid (bS (anormT s.data.toList) = T) := by show _ = _; rw [HF.out, decide_eq_false hk0]; rfl
    clear HF
    go_enter Tryz.func43, Tryz.ntmps43
    go_wp2_with fail
    refine C1.out.mono ?_
    rintro e w' ⟨rfl, rfl⟩
    go_wp2_with fail
    refine C2.out.mono ?_
    rintro e w2 ⟨rfl, hb2⟩
    go_wp2
    go_ret2
    rw [HF2.out]
    exact ⟨rfl, hb2⟩
set_option maxRecDepth 100000 in
theorem aright_any (s : ByteArray) (w : World) (m : Int) (hs : s.size ≤ 1048576) (hm : w.cell? ⟨0, 0, none⟩ = some (.int .i64 m)) : Calls Tryz.prog 34 #[.string s] w (BelB (decide (anormE s.data.toList = 0)) w) := by
  have C1 := Lib.hid (anorm_any s w m hs hm)
  generalize anormE s.data.toList = k at C1 ⊢
  clear hm
  go_enter Tryz.func34, Tryz.ntmps34
  go_wp2_with fail
  refine C1.out.mono ?_
  rintro e w' ⟨rfl, hb⟩
  go_wp2
  go_ret
  exact ⟨ret_bool (by rw [Bool.eq_iff_iff]; simp), hb⟩
theorem two_new (w : World) (x y : Value) (tx ty : TypeId) : ((w.alloc (.cells #[x] tx)).alloc (.cells #[y] ty)).cell? ⟨w.heap.size + 1, 0, none⟩ = some y ∧ ((w.alloc (.cells #[x] tx)).alloc (.cells #[y] ty)).cell? ⟨w.heap.size, 0, none⟩ = some x ∧
    (∀ b, b < w.heap.size → ((w.alloc (.cells #[x] tx)).alloc (.cells #[y] ty)).cell? ⟨b, 0, none⟩ = w.cell? ⟨b, 0, none⟩) ∧ ((w.alloc (.cells #[x] tx)).alloc (.cells #[y] ty)).heap.size = w.heap.size + 2 := by
  have hz : (w.alloc (.cells #[x] tx)).heap.size = w.heap.size + 1 := by simp
  have h1 := (Below.refl w.heap.size w).alloc (Nat.le_refl _) (.cells #[x] tx)
  have h2 := (Below.refl (w.alloc (.cells #[x] tx)).heap.size (w.alloc (.cells #[x] tx))).alloc (Nat.le_refl _) (.cells #[y] ty)
  refine ⟨?_, ?_, fun b hb => ?_, by simp⟩
  · rw [← hz, World.cell?_alloc_mark]; rfl
  · rw [h2.cell (p := ⟨w.heap.size, 0, none⟩) (by show w.heap.size < _; rw [hz]; omega), World.cell?_alloc_mark]; rfl
  · rw [h2.cell (p := ⟨b, 0, none⟩) (by show b < _; rw [hz]; omega), h1.cell (p := ⟨b, 0, none⟩) hb]
/-- The function that means tells: what it holds. -/
def TellMean (p : List UInt8) (w : World) (e : Ending) (w' : World) : Prop := ∃ b1 b2 b3 : Nat, e = .returned (.func (.func 47) #[] #[.pointer (some ⟨b1, 0, none⟩), .pointer (some ⟨b2, 0, none⟩), .pointer (some ⟨b3, 0, none⟩)]) ∧
  w'.cell? ⟨b1, 0, none⟩ = some (.int .i64 (anormE p)) ∧ w'.cell? ⟨b2, 0, none⟩ = some (.bool (belP p)) ∧ w'.cell? ⟨b3, 0, none⟩ = some (.string (bS (normU (patS p)))) ∧ b1 < w'.heap.size ∧ b2 < w'.heap.size ∧ b3 < w'.heap.size ∧ Below w.heap.size w w'
set_option maxRecDepth 100000 in
set_option maxHeartbeats 1000000 in
theorem means_any (s : ByteArray) (w : World) (m : Int) (hs : s.size ≤ 1048576) (hm : w.cell? ⟨0, 0, none⟩ = some (.int .i64 m)) : Calls Tryz.prog 38 #[.string s] w (TellMean s.data.toList w) := by
  obtain ⟨P, hP⟩ : ∃ P, P = bS (patS s.data.toList) := ⟨_, rfl⟩
  obtain ⟨b, hb⟩ : ∃ b, b = belP s.data.toList := ⟨_, rfl⟩
  obtain ⟨k, hk⟩ : ∃ k, k = anormE s.data.toList := ⟨_, rfl⟩
  obtain ⟨T, hT⟩ : ∃ T, T = bS (normU (patS s.data.toList)) := ⟨_, rfl⟩
  have C1 := parted_any s w hs
  rw [← hP, ← hb] at C1
  have hPd : P.data.toList = patS s.data.toList := by rw [hP]; rfl
  have C2 := Lib.hid (fun w' hm' => norm_is2 P T k w' m hm' (by rw [hPd, hT]) (by rw [hPd, hk]; rfl))
  have C1 := Lib.hid C1
  unfold TellMean
  rw [← hb, ← hk, ← hT]
  have HM := Lib.hid hm
  clear hP hb hk hT hPd hm
  go_enter Tryz.func38, Tryz.ntmps38
  go_wp2_with fail
  refine C1.out.mono ?_
  rintro e w' ⟨rfl, rfl⟩
  go_wp2_with fail
  refine (C2.out _ (maxlen_below HM.out ((Below.refl _ _).alloc (Nat.le_refl _) _))).mono ?_
  rintro e w2 ⟨rfl, hb2⟩
  have HB2 := Lib.hid (((Below.refl w.heap.size w).alloc (Nat.le_refl _) _).trans (hb2.mono (by simp)))
  have c0 : w2.cell? ⟨w.heap.size, 0, none⟩ = some (.bool b) := (hb2.cell (p := ⟨w.heap.size, 0, none⟩) (by simp)).trans (by simp)
  have z2 : w.heap.size < w2.heap.size := by have := hb2.size; simp at this; omega
  have HC0 := Lib.hid c0
  clear hb2 c0
  go_wp2
  go_ret
  refine ⟨w2.heap.size + 1, w.heap.size, w2.heap.size, rfl, ?_, ?_, ?_, ?_, ?_, ?_, (HB2.out.alloc HB2.out.size _).alloc (by simp; have := HB2.out.size; omega) _⟩
  · exact (two_new w2 (.string T) (.int .i64 k) _ _).1
  · exact ((two_new w2 (.string T) (.int .i64 k) _ _).2.2.1 _ z2).trans HC0.out
  · exact (two_new w2 (.string T) (.int .i64 k) _ _).2.1
  all_goals (rw [(two_new w2 (.string T) (.int .i64 k) _ _).2.2.2]; omega)
theorem size_pos_lt (a b : ByteArray) : decide (b.size < a.size) = decide (b.data.toList.length < a.data.toList.length) := by
  rw [len3, len3]
set_option maxRecDepth 100000 in
set_option maxHeartbeats 1000000 in
theorem means1_any (n s : ByteArray) (k : Int) (b : Bool) (b1 b2 b3 : Nat) (w : World) (h1 : w.cell? ⟨b1, 0, none⟩ = some (.int .i64 k)) (h2 : w.cell? ⟨b2, 0, none⟩ = some (.bool b)) (h3 : w.cell? ⟨b3, 0, none⟩ = some (.string s)) :
    Calls Tryz.prog 47 #[.string n, .pointer (some ⟨b1, 0, none⟩), .pointer (some ⟨b2, 0, none⟩), .pointer (some ⟨b3, 0, none⟩)] w (RetB (hitB k b s.data.toList n.data.toList) w) := by
  by_cases hk : k = 0
  · subst hk
    cases b with
    | true =>
      have C1 := Tryz.strings_HasPrefix n s w
      cases hp : Lib.hasPrefix n.data.toList s.data.toList with
      | true =>
        rw [hp] at C1
        have C1 := Lib.hid C1
        have HF : Hid (hitB 0 true s.data.toList n.data.toList = decide (s.size < n.size)) := by
          show _ = _
          rw [size_pos_lt]
          unfold hitB; rw [hp]; simp
        clear hp
        go_enter Tryz.func47, Tryz.ntmps47
        go_wp2_with fail
        refine C1.out.mono ?_
        rintro e w' ⟨rfl, rfl⟩
        go_wp2
        go_ret
        rw [HF.out]
        exact ⟨rfl, rfl⟩
      | false =>
        rw [hp] at C1
        have C1 := Lib.hid C1
        have HF : Hid (hitB 0 true s.data.toList n.data.toList = false) := by
          show _ = _
          unfold hitB; rw [hp]; simp
        clear hp
        go_enter Tryz.func47, Tryz.ntmps47
        go_wp2_with fail
        refine C1.out.mono ?_
        rintro e w' ⟨rfl, rfl⟩
        go_wp2
        go_ret
        rw [HF.out]
        exact ⟨rfl, rfl⟩
    | false =>
      have HF : Hid (hitB 0 false s.data.toList n.data.toList = (n.toList == s.toList)) := by
        show _ = _
        unfold hitB; rw [ByteArray.toList_eq, ByteArray.toList_eq]; simp
      go_enter Tryz.func47, Tryz.ntmps47
      go_wp2
      go_ret
      rw [HF.out]
      exact ⟨ret_bool (by first | rfl | simp), rfl⟩
  · have t1 : (k == 0) = false := by simpa using hk
    have t2 : (k != 0) = true := by simpa using hk
    have HF : Hid (hitB k b s.data.toList n.data.toList = false) := by show _ = _; unfold hitB; rw [decide_eq_false hk]; rfl
    go_enter Tryz.func47, Tryz.ntmps47
    go_wp2
    go_ret
    rw [HF.out]
    exact ⟨rfl, rfl⟩
end Go.Proofs.YtkneafpmgbgalaaGreatDoor
