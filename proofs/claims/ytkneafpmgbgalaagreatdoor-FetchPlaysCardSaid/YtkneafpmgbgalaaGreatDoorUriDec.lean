/- The contracts of (*strings.Builder).WriteByte, at this program, and of uri.decoded: a path, decoded. Conditions: at most 2^20 bytes. -/
import Derived.Test.YtkneafpmgbgalaaGreatDoorUriEsc
import Derived.Test.YtkneafpmgbgalaaGreatDoorBuildR
namespace Go.Proofs.YtkneafpmgbgalaaGreatDoor
open Go.RowKit Go.Proofs.YtkneafpmgbgalaaGreatDoor.CharsPlain Go.Proofs.YtkneafpmgbgalaaGreatDoor.UriPlain
set_option linter.unusedVariables false
set_option linter.unusedSimpArgs false
set_option maxHeartbeats 1000000 in
set_option maxRecDepth 100000 in
theorem writeByte_any (B b : Nat) (bs : List Value) (c : Int) (w : World) (h : Lib.IsBuilder 103 5 B b bs w) (hlen : bs.length + 1 ≤ 140737488355328) (hBw : B ≤ w.heap.size) :
    Calls Tryz.prog 74 #[.pointer (some ⟨b, 0, none⟩), .int .u8 c] w fun e w' => e = .returned .nilIface ∧ (Lib.BuilderAt 103 5 B b (.pointer (some ⟨b, 0, none⟩)) (bs ++ [.int .u8 c]) w' ∧ Below B w w') := by
  obtain ⟨i0, hi, hz0, hz1, hz2⟩ := info_parts Tryz.infoByteB
  go_enter Tryz.func74, Tryz.ntmps74
  go_wp2_with fail
  refine (copyCheck_any B b bs _ h).mono ?_
  rintro e w1 ⟨rfl, h1, hb1, hx1⟩
  obtain ⟨hB, v, hbk, hown, hne⟩ := h1
  have c0 : w1.cell? ⟨b, 0, none⟩ = some (.pointer (some ⟨b, 0, none⟩)) := by rw [Lib.cell_of_heap hbk]; rfl
  have c1 : w1.cell? ⟨b, 1, none⟩ = some v := by rw [Lib.cell_of_heap hbk]; rfl
  have hlt : b < w1.heap.size := by
    rcases Nat.lt_or_ge b w1.heap.size with h' | h'
    · exact h'
    · simp [Array.getElem?_eq_none h'] at hbk
  go_wp2_with (at_builtin; refine wpList_append_own _ rfl _ _ 34 rfl B 5 i0 (.int .u8 0) 1 1 Tryz.underlying34 hi hz0 hz1 hz2 rfl (by decide) _ _ _ rfl (hown.alloc _) ⟨w1.heap.size, 0, none⟩ 1 1 [.int .u8 c] rfl rfl ?c1 ?c2 ?c3 ?c4 ?c5 ?_)
  case c1 =>
    intro j u hj
    have : j = 0 := by
      rcases j with _ | j
      · rfl
      · simp at hj
    subst this
    show (w1.alloc _).cell? ⟨w1.heap.size, 0, none⟩ = _
    rw [World.cell?_alloc_mark]; simpa using hj
  case c2 => intro u hu; simp at hu; subst hu; rfl
  case c3 => unfold maxLen; have := hown.1; omega
  case c4 => have := hown.1; omega
  case c5 => have := hb1.size; simp; omega
  intro v' w2 hown' hgrow _
  have hb2 : w2.heap[b]? = some (.cells #[.pointer (some ⟨b, 0, none⟩), v] 103 (0, 0)) := by
    rw [hgrow.block b (by simp; omega) (fun e => hne e.symm), Below.heap_alloc _ _ _ hlt]
    exact hbk
  have d0 : w2.cell? ⟨b, 0, none⟩ = some (.pointer (some ⟨b, 0, none⟩)) := by rw [Lib.cell_of_heap hb2]; rfl
  have d1 : w2.cell? ⟨b, 1, none⟩ = some v := by rw [Lib.cell_of_heap hb2]; rfl
  have f1 : w2.frozen? ⟨b, 1, none⟩ = false := Lib.frozen_of_heap hb2 1
  obtain ⟨ao, n', cap, rfl⟩ : ∃ ao n' cap, v' = .slice ao n' cap := by
    rcases hown'.2 with ⟨hv, _⟩ | ⟨g, cap, cur, hv, _⟩
    · exact ⟨_, _, _, hv⟩
    · exact ⟨_, _, _, hv⟩
  go_wp2
  go_ret
  refine ⟨rfl, ?_, ?_⟩
  · exact Lib.BuilderAt.put (T := 103) (e := 5) hB hb2 (bs' := bs ++ [.int .u8 c]) (by simpa using hown') (by decide)
  · exact ((hb1.alloc (by have := hb1.size; omega) _).grown hgrow (by have := hb1.size; simp; omega) (fun k hk => (hown.lt k hk).1)).setCell (p := ⟨b, 1, none⟩) hB _
/-- Is it an escape, and what it becomes. -/
def escB : List UInt8 → Bool
  | _ :: d :: e :: _ => !decide (hexU d < 0 ∨ hexU e < 0)
  | _ => false
def escT : List UInt8 → List UInt8
  | _ :: d :: e :: _ => if hexU d < 0 ∨ hexU e < 0 then [] else escD (hexU d) (hexU e)
  | _ => []
theorem decP_pct (r : List UInt8) : (escB (37 :: r) = true → decP (37 :: r) = (decP (r.drop 2)).map (escT (37 :: r) ++ ·)) ∧ (escB (37 :: r) = false → decP (37 :: r) = none) ∧ (escB (37 :: r) = true → 2 ≤ r.length ∧ (escT (37 :: r)).length ≤ 3) := by
  match r with
  | [] => exact ⟨fun h => (by cases h), fun _ => rfl, fun h => (by cases h)⟩
  | [d] => exact ⟨fun h => (by cases h), fun _ => (by simp [decP]), fun h => (by cases h)⟩
  | d :: e :: r =>
    by_cases hx : hexU d < 0 ∨ hexU e < 0
    · have hb : escB (37 :: d :: e :: r) = false := by simp [escB, hx]
      refine ⟨fun h => (by rw [hb] at h; cases h), fun _ => (by simp only [decP, if_true, if_pos hx]), fun h => by rw [hb] at h; cases h⟩
    · refine ⟨fun _ => (by simp only [decP, if_true, if_neg hx, escT, List.drop_succ_cons, List.drop_zero]), fun h => (by simp [escB, hx] at h), fun _ => ⟨by simp, ?_⟩⟩
      simp only [escT, if_neg hx]
      exact escD_length _ _
theorem len3 (s : ByteArray) : s.data.toList.length = s.size := Array.length_toList
theorem list3 (s : ByteArray) (h1 : 1 < s.size) (h2 : 2 < s.size) : ∃ c r, s.data.toList = c :: s[1] :: s[2] :: r := by
  have hl := len3 s
  have g1 : s.data.toList[1]'(by omega) = s[1] := rfl
  have g2 : s.data.toList[2]'(by omega) = s[2] := rfl
  refine ⟨s.data.toList[0]'(by omega), s.data.toList.drop 3, ?_⟩
  rw [← g1, ← g2, List.getElem_cons_drop, List.getElem_cons_drop, List.getElem_cons_drop, List.drop_zero]
theorem esc_short : ∀ l : List UInt8, l.length < 3 → escT l = [] ∧ escB l = false
  | [], _ => ⟨rfl, rfl⟩
  | [_], _ => ⟨rfl, rfl⟩
  | [_, _], _ => ⟨rfl, rfl⟩
  | _ :: _ :: _ :: _, h => by simp at h; omega
theorem escaped_any (s : ByteArray) (w : World) (hn : s.size ≤ 1099511627776) : Calls Tryz.prog 71 #[.string s] w (TellEsc ⟨(escT s.data.toList).toArray⟩ (escB s.data.toList) w) := by
  by_cases h : s.size < 3
  · have e1 : escT s.data.toList = [] ∧ escB s.data.toList = false := esc_short s.data.toList (by rw [len3]; exact h)
    rw [e1.1, e1.2]
    exact escaped_short s w h
  · obtain ⟨c, r, hl⟩ := list3 s (by omega) (by omega)
    have h1 : 1 < s.size := by omega
    have h2 : 2 < s.size := by omega
    refine escaped_aux s w h1 h2 (hexU s[1]) (hexU s[2]) rfl rfl (hexU_b _).2 (hexU_b _).2 hn _ _ _ rfl ?_ ?_
    · show _ = _
      rw [hl]
      simp only [escT]
      split <;> rfl
    · show _ = _
      rw [hl]; rfl
theorem ownRow_belowB {w w' : World} {base : Nat} {e : TypeId} {size : Nat} {v : Value} {n : Nat} {xs : List Value} (h : w.ownsRow base e size v n xs) (hb : Below w.heap.size w w') : w'.ownsRow base e size v n xs := by
  refine ⟨h.1, ?_⟩
  rcases h.2 with h2 | ⟨g, cap, cur, hv, hg, hh, r⟩
  · exact .inl h2
  · refine .inr ⟨g, cap, cur, hv, hg, ?_, r⟩
    rcases Nat.lt_or_ge g w.heap.size with hlt | hge
    · rw [hb.block g hlt]; exact hh
    · rw [Array.getElem?_eq_none hge] at hh; cases hh
theorem builder_below {T e : TypeId} {B b : Nat} {bs : List Value} {w w' : World} (h : Lib.IsBuilder T e B b bs w) (hb : Below w.heap.size w w') : Lib.IsBuilder T e B b bs w' := by
  have key : ∀ p, Lib.BuilderAt T e B b p bs w → Lib.BuilderAt T e B b p bs w' := fun p ⟨h1, v, h2, h3, h4⟩ => by
    refine ⟨h1, v, ?_, ownRow_belowB h3 hb, h4⟩
    rcases Nat.lt_or_ge b w.heap.size with hlt | hge
    · rw [hb.block b hlt]; exact h2
    · rw [Array.getElem?_eq_none hge] at h2; cases h2
  exact h.imp (key _) (key _)
theorem byteCells_append (a b : List UInt8) : Lib.byteCells (a ++ b) = Lib.byteCells a ++ Lib.byteCells b := by
  unfold Lib.byteCells; rw [List.map_append]
def strLen : Value → Nat
  | .string s => s.size
  | _ => 0
/-- A path, decoded, or not. -/
def TellDec (l : List UInt8) (w : World) (e : Ending) (w' : World) : Prop := ∃ t b, e = .returned (.tuple #[.string t, .bool b]) ∧ b = (decP l).isSome ∧ (∀ p, decP l = some p → t = ⟨p.toArray⟩) ∧ Below w.heap.size w w'
theorem TellDec.yes {l acc : List UInt8} {w w' : World} (h : decP l = some acc) (hb : Below w.heap.size w w') : TellDec l w (.returned (.tuple #[.string ⟨acc.toArray⟩, .bool true])) w' :=
  ⟨_, _, rfl, by rw [h]; rfl, fun p hp => by rw [h] at hp; cases hp; rfl, hb⟩
theorem TellDec.no {l : List UInt8} {t : ByteArray} {w w' : World} (h : decP l = none) (hb : Below w.heap.size w w') : TellDec l w (.returned (.tuple #[.string t, .bool false])) w' :=
  ⟨_, _, rfl, by rw [h]; rfl, fun p hp => (by rw [h] at hp; cases hp), hb⟩
theorem newBuilder (w : World) : Lib.IsBuilder 103 5 w.heap.size w.heap.size [] (w.alloc (.cells #[.pointer none, .slice none 0 0] 103)) :=
  .inl ⟨Nat.le_refl _, .slice none 0 0, by rw [World.alloc]; simp, World.ownsRow_nil _ _ _ _, by simp [Value.ownBlock]⟩
theorem drop_extract (r : ByteArray) (k : Nat) : (r.extract k r.size).data.toList = r.data.toList.drop k := by
  simp [ByteArray.data_extract]
  exact List.take_of_length_le (by rw [List.length_drop, len3]; exact Nat.le_refl _)
set_option maxRecDepth 100000 in
set_option maxHeartbeats 4000000 in
theorem decoded_any (s : ByteArray) (w : World) (hs : s.size ≤ 1048576) : Calls Tryz.prog 57 #[.string s] w (TellDec s.data.toList w) := by
  have N0 := Lib.hid (newBuilder w)
  have B0 := Lib.hid ((Below.refl w.heap.size w).alloc (Nat.le_refl _) (.cells #[.pointer none, .slice none 0 0] 103))
  have hl := len3 s
  go_enter Tryz.func57, Tryz.ntmps57
  go_wp2; go_step3
  go_wp2; go_step3
  go_wp2
  go_loopw [0] (fun v0 wr => ∃ (r : ByteArray) (acc : List UInt8), v0 = .string r ∧ Hid (decP s.data.toList = (decP r.data.toList).map (acc ++ ·)) ∧ acc.length + r.size ≤ s.size ∧ Hid (Lib.IsBuilder 103 5 w.heap.size w.heap.size (Lib.byteCells acc) wr) ∧ Hid (Below w.heap.size w wr)) (fun v0 _ => strLen v0)
  case atStart => exact ⟨s, [], rfl, by show _ = _; simp, by simp, N0.out, B0.out⟩
  case round =>
    obtain ⟨r, acc, rfl, HD, hsz, HN, HB⟩ := hrel
    by_cases h0 : r = ⟨#[]⟩
    · subst h0
      have HY : Hid (decP s.data.toList = some acc) := by
        show _ = _
        rw [HD.out]; simp [decP]
      clear HD
      go_wp2_with fail
      refine (Tryz.Builder_String_any w.heap.size w.heap.size acc _ HN.out HB.out.size).mono ?_
      rintro x w2 ⟨rfl, hB2⟩
      go_wp2
      rw [Exit.noGoto_ret]
      go_ret2
      exact TellDec.yes HY.out (HB.out.trans hB2)
    · have hr0 : 0 < r.size := by
        rcases Nat.eq_zero_or_pos r.size with h | h
        · exact absurd (by
            have e : r.data.toList = [] := List.length_eq_zero_iff.1 (by rw [len3]; exact h)
            have : r.data = #[] := Array.toList_eq_nil_iff.1 e
            cases r; cases this; rfl) h0
        · exact h
      have hz : (0 : Int) < (r.size : Int) := by omega
      have hq2 : ¬ r.toList = [] := by
        rw [ByteArray.toList_eq]
        intro h
        have := congrArg List.length h
        rw [len3] at this; rw [this] at hr0; exact absurd hr0 (by decide)
      have hq : r.toList.isEmpty = false := List.isEmpty_eq_false_iff.2 hq2
      have hcons : Hid (r.data.toList = r[0] :: (r.extract 1 r.size).data.toList) := by
        show _ = _
        rw [drop_extract]
        have g : r.data.toList[0]'(by rw [len3]; exact hr0) = r[0] := rfl
        rw [← g, List.getElem_cons_drop, List.drop_zero]
      by_cases hp : ((r[0].toNat : Int) = 37)
      · have hp1 : ((r[0].toNat : Int) == 37) = true := by simpa using hp
        have HP : Hid (r[0] = 37) := (u8_eq _ _ (by decide) (by decide)).1 hp
        clear hp
        have hrs : r.size ≤ 1099511627776 := by omega
        have h37 : Hid (r.data.toList = 37 :: (r.extract 1 r.size).data.toList) := by show _ = _; rw [hcons.out, HP.out]
        obtain ⟨P1, P2, P3⟩ := decP_pct (r.extract 1 r.size).data.toList
        cases hE : escB r.data.toList with
        | true =>
          have HE := Lib.hid hE
          have hE2 : escB (37 :: (r.extract 1 r.size).data.toList) = true := by rw [← h37.out]; exact hE
          have HD1 := Lib.hid (P1 hE2)
          obtain ⟨hl2, hT3⟩ := P3 hE2
          rw [len3, ByteArray.size_extract, Nat.min_self] at hl2
          have h3 : 3 ≤ r.size := by omega
          obtain ⟨T, hT⟩ : ∃ T, T = escT r.data.toList := ⟨_, rfl⟩
          have hTl : T.length ≤ 3 := by rw [hT, h37.out]; exact hT3
          have HT := Lib.hid hT
          have HD2 : Hid (decP s.data.toList = (decP (r.extract 3 r.size).data.toList).map ((acc ++ T) ++ ·)) := by
            show _ = _
            rw [HD.out, HT.out, h37.out, HD1.out, drop_extract, drop_extract, List.drop_drop, Option.map_map]
            congr 1
            funext x; simp
          have b3 : (3 : Int) ≤ (r.size : Int) := by omega
          have hT0 : (ByteArray.mk T.toArray).size = T.length := by show T.toArray.size = _; simp
          clear hE hE2 P1 P2 P3 HD1 hT hcons HD
          go_wp2_with fail
          refine (escaped_any _ _ hrs).mono ?_
          rintro e w1 ⟨rfl, hB1⟩
          rw [HE.out, ← HT.out]
          have HN1 : Lib.IsBuilder 103 5 w.heap.size w.heap.size (Lib.byteCells acc) w1 := builder_below HN.out hB1
          have HB1 := HB.out.trans (hB1.mono HB.out.size)
          go_wp2_with fail
          refine (writeString_any w.heap.size w.heap.size _ ⟨T.toArray⟩ _ HN1 (by rw [Lib.byteCells_length]; omega) HB1.size).mono ?_
          rintro x w2 ⟨rfl, hN2, hB2, _⟩
          have HB2 := HB1.trans hB2
          go_wp2
          go_roundw
          case rel =>
            refine ⟨_, acc ++ T, rfl, HD2.out, by rw [List.length_append, ByteArray.size_extract, Nat.min_self]; omega, ?_, HB2⟩
            show Lib.IsBuilder _ _ _ _ _ _
            rw [byteCells_append]
            exact .inr hN2
          case measure => simp [strLen]; omega
        | false =>
          have HE := Lib.hid hE
          have hE2 : escB (37 :: (r.extract 1 r.size).data.toList) = false := by rw [← h37.out]; exact hE
          have HD1 : Hid (decP s.data.toList = none) := by
            show _ = _
            rw [HD.out, h37.out, P2 hE2]; rfl
          clear hE hE2 P1 P2 P3 hcons HD
          go_wp2_with fail
          refine (escaped_any _ _ hrs).mono ?_
          rintro e w1 ⟨rfl, hB1⟩
          rw [HE.out]
          have HN1 : Lib.IsBuilder 103 5 w.heap.size w.heap.size (Lib.byteCells acc) w1 := builder_below HN.out hB1
          have HB1 := HB.out.trans (hB1.mono HB.out.size)
          go_wp2_with fail
          refine (Tryz.Builder_String_any w.heap.size w.heap.size acc _ HN1 HB1.size).mono ?_
          rintro x w2 ⟨rfl, hB2⟩
          go_wp2
          rw [Exit.noGoto_ret]
          go_ret2
          exact TellDec.no HD1.out (HB1.trans hB2)
      · have hp1 : ((r[0].toNat : Int) == 37) = false := by simpa using hp
        have HP : Hid (r[0] ≠ 37) := fun h => hp ((u8_eq r[0] 37 (by decide) (by decide)).2 h)
        clear hp
        cases hA : amI signsS (r[0].toNat : Int) with
        | true =>
          have HA := Lib.hid hA
          have HD2 : Hid (decP s.data.toList = (decP (r.extract 1 r.size).data.toList).map ((acc ++ [r[0]]) ++ ·)) := by
            show _ = _
            have : amU signsS r[0] = true := hA
            rw [HD.out, hcons.out, decP_cons _ _ HP.out, if_pos this, Option.map_map]
            congr 1
            funext x; simp
          have b1 : (1 : Int) ≤ (r.size : Int) := by omega
          clear hA hcons HD
          go_wp2_with fail
          refine (among_any _ _ _).mono ?_
          rintro e w' ⟨rfl, rfl⟩
          rw [show amI (ByteArray.mk #[45, 46, 95, 126, 33, 36, 38, 39, 40, 41, 42, 43, 44, 59, 61, 58, 64, 47]).data.toList (r[0].toNat : Int) = true from HA.out]
          go_wp2_with fail
          refine (writeByte_any w.heap.size w.heap.size _ _ _ HN.out (by rw [Lib.byteCells_length]; omega) HB.out.size).mono ?_
          rintro x w2 ⟨rfl, hN2, hB2⟩
          have HB2 := HB.out.trans hB2
          go_wp2
          go_roundw
          case rel =>
            refine ⟨_, acc ++ [r[0]], rfl, HD2.out, by rw [List.length_append, ByteArray.size_extract, Nat.min_self]; simp; omega, ?_, HB2⟩
            show Lib.IsBuilder _ _ _ _ _ _
            rw [byteCells_append]
            exact .inr hN2
          case measure => simp [strLen]; omega
        | false =>
          have HA := Lib.hid hA
          have HD1 : Hid (decP s.data.toList = none) := by
            show _ = _
            have : ¬ amU signsS r[0] = true := by show ¬ amI _ _ = true; rw [hA]; decide
            rw [HD.out, hcons.out, decP_cons _ _ HP.out, if_neg this]; rfl
          clear hA hcons HD
          go_wp2_with fail
          refine (among_any _ _ _).mono ?_
          rintro e w' ⟨rfl, rfl⟩
          rw [show amI (ByteArray.mk #[45, 46, 95, 126, 33, 36, 38, 39, 40, 41, 42, 43, 44, 59, 61, 58, 64, 47]).data.toList (r[0].toNat : Int) = false from HA.out]
          go_wp2_with fail
          refine (Tryz.Builder_String_any w.heap.size w.heap.size acc _ HN.out HB.out.size).mono ?_
          rintro x w2 ⟨rfl, hB2⟩
          go_wp2
          rw [Exit.noGoto_ret]
          go_ret2
          exact TellDec.no HD1.out (HB.out.trans hB2)
end Go.Proofs.YtkneafpmgbgalaaGreatDoor
