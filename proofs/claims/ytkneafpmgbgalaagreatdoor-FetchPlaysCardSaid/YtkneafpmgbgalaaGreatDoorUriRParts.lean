/- The contract of narthexref21.Parts: the steps of a path. Conditions: at most 2^20 bytes. -/
import Derived.Test.YtkneafpmgbgalaaGreatDoorUriDots
namespace Go.Proofs.YtkneafpmgbgalaaGreatDoor
open Go.RowKit Go.Proofs.YtkneafpmgbgalaaGreatDoor.CharsPlain Go.Proofs.YtkneafpmgbgalaaGreatDoor.UriPlain
set_option linter.unusedVariables false
set_option linter.unusedSimpArgs false
/-- A row of texts of the call's own. -/
def TellStrs (ps : List (List UInt8)) (w : World) (e : Ending) (w' : World) : Prop := ∃ A c, e = .returned (.slice A ps.length c) ∧ w'.ownsRow w.heap.size 9 1 (.slice A ps.length c) ps.length (strs ps) ∧ Below w.heap.size w w'
/-- What has been parted when place k is met, from place f on. -/
def PartK (t : List UInt8) (k f : Nat) (done : List (List UInt8)) : Prop := (f ≤ k ∧ k ≤ t.length ∧ splitS t = done ++ splitS (t.drop f) ∧ (47 : UInt8) ∉ (t.drop f).take (k - f)) ∨ (k = t.length + 1 ∧ f = k ∧ splitS t = done)
theorem PartK.start (t : List UInt8) : PartK t 0 0 [] := .inl ⟨Nat.le_refl _, Nat.zero_le _, by simp, by simp⟩
theorem PartK.le {t : List UInt8} {k f : Nat} {done : List (List UInt8)} (h : PartK t k f done) : f ≤ k ∧ k ≤ t.length + 1 := by rcases h with ⟨h1, h2, _⟩ | ⟨h1, h2, _⟩ <;> omega
theorem PartK.next {t : List UInt8} {k f : Nat} {done : List (List UInt8)} (h : PartK t k f done) (hk : k < t.length) (hc : t[k] ≠ 47) : PartK t (k + 1) f done := by
  rcases h with ⟨h1, h2, h3, h4⟩ | ⟨h1, _⟩
  · refine .inl ⟨by omega, by omega, h3, ?_⟩
    have e : k + 1 - f = (k - f) + 1 := by omega
    have hlt : k - f < (t.drop f).length := by rw [List.length_drop]; omega
    have hg : (t.drop f)[k - f] = t[k] := by rw [List.getElem_drop]; congr 1; omega
    rw [e, List.take_add_one, List.getElem?_eq_getElem hlt, hg, List.mem_append]
    rintro (h | h)
    · exact h4 h
    · simp at h; exact hc h.symm
  · omega
theorem PartK.cut {t : List UInt8} {k f : Nat} {done : List (List UInt8)} (h : PartK t k f done) (hk : k < t.length) (hc : t[k] = 47) : PartK t (k + 1) (k + 1) (done ++ [(t.drop f).take (k - f)]) := by
  rcases h with ⟨h1, h2, h3, h4⟩ | ⟨h1, _⟩
  · refine .inl ⟨Nat.le_refl _, by omega, ?_, by simp⟩
    have e : t.drop f = (t.drop f).take (k - f) ++ 47 :: t.drop (k + 1) := by
      have h5 : (t.drop f).drop (k - f) = t.drop k := by rw [List.drop_drop]; congr 1; omega
      have h6 : t.drop k = 47 :: t.drop (k + 1) := by rw [← hc, List.getElem_cons_drop]
      rw [← h6, ← h5, List.take_append_drop]
    rw [h3]
    conv => lhs; rw [e, splitS_app, splitS_clean _ h4]
    simp
  · omega
theorem PartK.last {t : List UInt8} {f : Nat} {done : List (List UInt8)} (h : PartK t t.length f done) : PartK t (t.length + 1) (t.length + 1) (done ++ [(t.drop f).take (t.length - f)]) := by
  rcases h with ⟨h1, h2, h3, h4⟩ | ⟨h1, _⟩
  · refine .inr ⟨rfl, rfl, ?_⟩
    have e : (t.drop f).take (t.length - f) = t.drop f := List.take_of_length_le (by rw [List.length_drop]; exact Nat.le_refl _)
    rw [e] at h4 ⊢
    rw [h3, splitS_clean _ h4]
  · omega
theorem extract_part (t : List UInt8) (f k : Nat) : (bS t).extract f k = bS ((t.drop f).take (k - f)) := by
  apply ByteArray.ext
  show ((bS t).extract f k).data = ((t.drop f).take (k - f)).toArray
  rw [ByteArray.data_extract]
  show t.toArray.extract f k = _
  simp
theorem part_len {t : List UInt8} {k f : Nat} {done : List (List UInt8)} (h : PartK t k f done) : done.length ≤ t.length + 1 := by
  have h1 : (splitS t).length ≤ t.length + 1 := by
    have := splitS_size t
    have : ∀ l : List (List UInt8), l.length ≤ (l.map (·.length + 1)).sum := fun l => by
      induction l with
      | nil => simp
      | cons a l ih => simp; omega
    have := this (splitS t)
    omega
  rcases h with ⟨_, _, h3, _⟩ | ⟨_, _, h3⟩
  · rw [h3, List.length_append] at h1; omega
  · rw [h3] at h1; exact h1
theorem strs_add (done : List (List UInt8)) (p : List UInt8) : strs done ++ [.string (bS p)] = strs (done ++ [p]) := by unfold strs; rw [List.map_append]; rfl
set_option maxRecDepth 100000 in
set_option maxHeartbeats 4000000 in
theorem rparts_loop (t : List UInt8) (w : World) (ht : t.length ≤ 1048576) (s : ByteArray) (h47 : s = bS t ∧ t.head? ≠ some 47 ∨ s = bS (47 :: t)) :
    Calls Tryz.prog 68 #[.string s] w (TellStrs (splitS t) w) := by
  obtain ⟨i0, hi, hz0, hz1, hz2⟩ := info_parts Tryz.infoStrU
  obtain ⟨x, hx⟩ : ∃ x, x = bS t := ⟨_, rfl⟩
  have hxs1 : x.size ≤ t.length := by rw [hx, bS_size]; exact Nat.le_refl _
  have hxs2 : t.length ≤ x.size := by rw [hx, bS_size]; exact Nat.le_refl _
  have hget : ∀ (k : Nat) (h : k < x.size), x[k] = t[k]'(by omega) := fun k h => by subst hx; rfl
  have HEX : Hid (∀ f k, x.extract f k = bS ((t.drop f).take (k - f))) := fun f k => by rw [hx]; exact extract_part t f k
  have HG := Lib.hid hget
  have HX := Lib.hid hx
  clear hget
  rcases h47 with ⟨h1, h2⟩ | h1
  · obtain rfl : s = x := h1.trans hx.symm
    clear hx h1
    by_cases h0 : t = []
    · have q1 : s.toList.isEmpty = true := by rw [ByteArray.toList_eq, HX.out, h0]; rfl
      have q2 : s.toList = [] := by rw [ByteArray.toList_eq, HX.out, h0]; rfl
      clear h0 h2
      go_enter Tryz.func68, Tryz.ntmps68
      go_wp2
      go_loopw [3, 4, 5] (fun v3 v4 v5 wr => ∃ (k f n c : Nat) (done : List (List UInt8)) (A : Option Addr), v5 = .int .i64 k ∧ v4 = .int .i64 f ∧ v3 = .slice A n c ∧ Hid (n = done.length) ∧ Hid (PartK t k f done) ∧ Hid (wr.ownsRow w.heap.size 9 1 (.slice A n c) n (strs done)) ∧ Hid (Below w.heap.size w wr)) (fun _ _ v5 _ => t.length + 2 - (intOf v5).toNat)
      case atStart => exact ⟨0, 0, 0, 0, [], none, rfl, rfl, rfl, rfl, PartK.start t, World.ownsRow_nil _ _ _ _, Below.refl _ _⟩
      case round =>
        obtain ⟨k, f, n, c, done, A, rfl, rfl, rfl, HN, HP, HR, HB⟩ := hrel
        obtain ⟨hfk, hkt⟩ := HP.out.le
        have hdl := part_len HP.out
        have hn1 : n ≤ 1048577 := by have := HN.out; omega
        have hB1 : w.heap.size ≤ wr.heap.size := HB.out.size
        by_cases hle : k ≤ t.length
        · have g0 : (k : Int) ≤ (s.size : Int) := by omega
          have g00 : (0 : Int) ≤ (k : Int) := by omega
          obtain ⟨y, hy⟩ : ∃ y, y = s.extract f k := ⟨_, rfl⟩
          have hfk2 : (f : Int) ≤ (k : Int) := by omega
          have hf0 : (0 : Int) ≤ (f : Int) := by omega
          have NEW : Hid (∀ (j : Nat) u, [Value.string (s.extract f k)][j]? = some u → (wr.alloc (.cells #[.string (s.extract f k)] 9)).cell? ((⟨wr.heap.size, 0, none⟩ : Addr).add j) = some u) := fun j u hj => by
            have : j = 0 := by
              rcases j with _ | j
              · rfl
              · simp at hj
            subst this
            show (wr.alloc _).cell? ⟨wr.heap.size, 0, none⟩ = _
            rw [World.cell?_alloc_mark]; simpa using hj
          have HADD : Hid (strs done ++ [.string (s.extract f k)] = strs (done ++ [(t.drop f).take (k - f)])) := by show _ = _; rw [HEX.out, strs_add]
          have HL2 : Hid (n + 1 = (done ++ [(t.drop f).take (k - f)]).length) := by show _ = _; rw [List.length_append, ← HN.out]; rfl
          clear hy hdl
          by_cases hkk : k = t.length
          · have t1 : ((k : Int) == (s.size : Int)) = true := by rw [beq_iff_eq]; omega
            have HP2 : Hid (PartK t (k + 1) (k + 1) (done ++ [(t.drop f).take (k - f)])) := by
              have h := HP.out
              rw [hkk] at h ⊢
              exact h.last
            clear hkk
            go_wp2_with (at_builtin; refine wpList_append_own _ rfl _ _ 22 rfl w.heap.size 9 i0 (.string ByteArray.empty) 1 16 Tryz.underlying22 hi hz0 hz1 hz2 rfl (by decide) _ _ _ rfl (HR.out.alloc _) ⟨wr.heap.size, 0, none⟩ 1 1 [.string (s.extract f k)] rfl rfl ?c1 ?c2 ?c3 ?c4 ?c5 ?_)
            case c1 => exact NEW.out
            case c2 => intro u hu; simp at hu; subst hu; rfl
            case c3 => unfold maxLen; omega
            case c4 => omega
            case c5 => simp; omega
            intro v' w2 hown' hgrow _
            obtain ⟨g', c', rfl⟩ := Joins.ownsRow_form hown' (by omega)
            have HB2 : Hid (Below w.heap.size w w2) := (HB.out.alloc hB1 _).grown hgrow (by simp; omega) (fun b hb => (HR.out.lt b hb).1)
            rw [HADD.out] at hown'
            have HOWN2 := Lib.hid hown'
            clear hown' hgrow
            go_wp2
            go_roundw
            case rel => exact ⟨k + 1, k + 1, n + 1, c', _, some ⟨g', 0, none⟩, by go_num, by go_num, rfl, HL2.out, HP2.out, HOWN2.out, HB2.out⟩
            case measure => simp [intOf]; omega
          · have t1 : ((k : Int) == (s.size : Int)) = false := by rw [beq_eq_false_iff_ne]; omega
            have hlt : k < s.size := by omega
            have hltI : (k : Int) < (s.size : Int) := by omega
            have hne : ¬ (k : Int) = (s.size : Int) := by omega
            have hg := HG.out k hlt
            by_cases hc : ((s[k].toNat : Int) = 47)
            · have t2 : ((s[k].toNat : Int) == 47) = true := by simpa using hc
              have h47 : t[k]'(by omega) = 47 := by rw [← hg]; exact (u8_eq s[k] 47 (by decide) (by decide)).1 hc
              have HP2 : Hid (PartK t (k + 1) (k + 1) (done ++ [(t.drop f).take (k - f)])) := HP.out.cut (by omega) h47
              clear hc hg h47 hkk
              go_wp2_with (at_builtin; refine wpList_append_own _ rfl _ _ 22 rfl w.heap.size 9 i0 (.string ByteArray.empty) 1 16 Tryz.underlying22 hi hz0 hz1 hz2 rfl (by decide) _ _ _ rfl (HR.out.alloc _) ⟨wr.heap.size, 0, none⟩ 1 1 [.string (s.extract f k)] rfl rfl ?c1 ?c2 ?c3 ?c4 ?c5 ?_)
              case c1 => exact NEW.out
              case c2 => intro u hu; simp at hu; subst hu; rfl
              case c3 => unfold maxLen; omega
              case c4 => omega
              case c5 => simp; omega
              intro v' w2 hown' hgrow _
              obtain ⟨g', c', rfl⟩ := Joins.ownsRow_form hown' (by omega)
              have HB2 : Hid (Below w.heap.size w w2) := (HB.out.alloc hB1 _).grown hgrow (by simp; omega) (fun b hb => (HR.out.lt b hb).1)
              rw [HADD.out] at hown'
              have HOWN2 := Lib.hid hown'
              clear hown' hgrow
              go_wp2
              go_roundw
              case rel => exact ⟨k + 1, k + 1, n + 1, c', _, some ⟨g', 0, none⟩, by go_num, by go_num, rfl, HL2.out, HP2.out, HOWN2.out, HB2.out⟩
              case measure => simp [intOf]; omega
            · have t2 : ((s[k].toNat : Int) == 47) = false := by simpa using hc
              have h47 : t[k]'(by omega) ≠ 47 := by rw [← hg]; exact fun h => hc ((u8_eq s[k] 47 (by decide) (by decide)).2 h)
              have HP2 : Hid (PartK t (k + 1) f done) := HP.out.next (by omega) h47
              clear hc hg h47 hkk
              go_wp2
              go_roundw
              case rel => exact ⟨k + 1, f, n, c, done, A, by go_num, rfl, rfl, HN.out, HP2.out, HR.out, HB.out⟩
              case measure => simp [intOf]; omega
        · have g0 : ¬ (k : Int) ≤ (s.size : Int) := by omega
          have HS : Hid (splitS t = done) := by
            rcases HP.out with ⟨_, h, _⟩ | ⟨_, _, h⟩
            · omega
            · exact h
          go_wp2
          go_ret
          refine ⟨A, c, ?_, ?_, HB.out⟩
          · rw [HS.out, ← HN.out]; rfl
          · rw [HS.out, ← HN.out]; exact HR.out
    · have hl : 0 < t.length := List.length_pos_iff.2 h0
      have hz : (0 : Int) < (s.size : Int) := by omega
      have hz1' : 0 < s.size := by omega
      have q2 : ¬ s.toList = [] := by rw [ByteArray.toList_eq, HX.out]; exact h0
      have q1 : s.toList.isEmpty = false := List.isEmpty_eq_false_iff.2 q2
      have q3 : ((s[0].toNat : Int) == 47) = false := by
        rw [HG.out 0 hz1']
        have : t[0] ≠ 47 := fun h => h2 (by rw [List.head?_eq_getElem?, List.getElem?_eq_getElem hl, h])
        simpa using fun h => this ((u8_eq t[0] 47 (by decide) (by decide)).1 h)
      clear h0 h2
      go_enter Tryz.func68, Tryz.ntmps68
      go_wp2
      go_loopw [3, 4, 5] (fun v3 v4 v5 wr => ∃ (k f n c : Nat) (done : List (List UInt8)) (A : Option Addr), v5 = .int .i64 k ∧ v4 = .int .i64 f ∧ v3 = .slice A n c ∧ Hid (n = done.length) ∧ Hid (PartK t k f done) ∧ Hid (wr.ownsRow w.heap.size 9 1 (.slice A n c) n (strs done)) ∧ Hid (Below w.heap.size w wr)) (fun _ _ v5 _ => t.length + 2 - (intOf v5).toNat)
      case atStart => exact ⟨0, 0, 0, 0, [], none, rfl, rfl, rfl, rfl, PartK.start t, World.ownsRow_nil _ _ _ _, Below.refl _ _⟩
      case round =>
        obtain ⟨k, f, n, c, done, A, rfl, rfl, rfl, HN, HP, HR, HB⟩ := hrel
        obtain ⟨hfk, hkt⟩ := HP.out.le
        have hdl := part_len HP.out
        have hn1 : n ≤ 1048577 := by have := HN.out; omega
        have hB1 : w.heap.size ≤ wr.heap.size := HB.out.size
        by_cases hle : k ≤ t.length
        · have g0 : (k : Int) ≤ (s.size : Int) := by omega
          have g00 : (0 : Int) ≤ (k : Int) := by omega
          obtain ⟨y, hy⟩ : ∃ y, y = s.extract f k := ⟨_, rfl⟩
          have hfk2 : (f : Int) ≤ (k : Int) := by omega
          have hf0 : (0 : Int) ≤ (f : Int) := by omega
          have NEW : Hid (∀ (j : Nat) u, [Value.string (s.extract f k)][j]? = some u → (wr.alloc (.cells #[.string (s.extract f k)] 9)).cell? ((⟨wr.heap.size, 0, none⟩ : Addr).add j) = some u) := fun j u hj => by
            have : j = 0 := by
              rcases j with _ | j
              · rfl
              · simp at hj
            subst this
            show (wr.alloc _).cell? ⟨wr.heap.size, 0, none⟩ = _
            rw [World.cell?_alloc_mark]; simpa using hj
          have HADD : Hid (strs done ++ [.string (s.extract f k)] = strs (done ++ [(t.drop f).take (k - f)])) := by show _ = _; rw [HEX.out, strs_add]
          have HL2 : Hid (n + 1 = (done ++ [(t.drop f).take (k - f)]).length) := by show _ = _; rw [List.length_append, ← HN.out]; rfl
          clear hy hdl
          by_cases hkk : k = t.length
          · have t1 : ((k : Int) == (s.size : Int)) = true := by rw [beq_iff_eq]; omega
            have HP2 : Hid (PartK t (k + 1) (k + 1) (done ++ [(t.drop f).take (k - f)])) := by
              have h := HP.out
              rw [hkk] at h ⊢
              exact h.last
            clear hkk
            go_wp2_with (at_builtin; refine wpList_append_own _ rfl _ _ 22 rfl w.heap.size 9 i0 (.string ByteArray.empty) 1 16 Tryz.underlying22 hi hz0 hz1 hz2 rfl (by decide) _ _ _ rfl (HR.out.alloc _) ⟨wr.heap.size, 0, none⟩ 1 1 [.string (s.extract f k)] rfl rfl ?c1 ?c2 ?c3 ?c4 ?c5 ?_)
            case c1 => exact NEW.out
            case c2 => intro u hu; simp at hu; subst hu; rfl
            case c3 => unfold maxLen; omega
            case c4 => omega
            case c5 => simp; omega
            intro v' w2 hown' hgrow _
            obtain ⟨g', c', rfl⟩ := Joins.ownsRow_form hown' (by omega)
            have HB2 : Hid (Below w.heap.size w w2) := (HB.out.alloc hB1 _).grown hgrow (by simp; omega) (fun b hb => (HR.out.lt b hb).1)
            rw [HADD.out] at hown'
            have HOWN2 := Lib.hid hown'
            clear hown' hgrow
            go_wp2
            go_roundw
            case rel => exact ⟨k + 1, k + 1, n + 1, c', _, some ⟨g', 0, none⟩, by go_num, by go_num, rfl, HL2.out, HP2.out, HOWN2.out, HB2.out⟩
            case measure => simp [intOf]; omega
          · have t1 : ((k : Int) == (s.size : Int)) = false := by rw [beq_eq_false_iff_ne]; omega
            have hlt : k < s.size := by omega
            have hltI : (k : Int) < (s.size : Int) := by omega
            have hne : ¬ (k : Int) = (s.size : Int) := by omega
            have hg := HG.out k hlt
            by_cases hc : ((s[k].toNat : Int) = 47)
            · have t2 : ((s[k].toNat : Int) == 47) = true := by simpa using hc
              have h47 : t[k]'(by omega) = 47 := by rw [← hg]; exact (u8_eq s[k] 47 (by decide) (by decide)).1 hc
              have HP2 : Hid (PartK t (k + 1) (k + 1) (done ++ [(t.drop f).take (k - f)])) := HP.out.cut (by omega) h47
              clear hc hg h47 hkk
              go_wp2_with (at_builtin; refine wpList_append_own _ rfl _ _ 22 rfl w.heap.size 9 i0 (.string ByteArray.empty) 1 16 Tryz.underlying22 hi hz0 hz1 hz2 rfl (by decide) _ _ _ rfl (HR.out.alloc _) ⟨wr.heap.size, 0, none⟩ 1 1 [.string (s.extract f k)] rfl rfl ?c1 ?c2 ?c3 ?c4 ?c5 ?_)
              case c1 => exact NEW.out
              case c2 => intro u hu; simp at hu; subst hu; rfl
              case c3 => unfold maxLen; omega
              case c4 => omega
              case c5 => simp; omega
              intro v' w2 hown' hgrow _
              obtain ⟨g', c', rfl⟩ := Joins.ownsRow_form hown' (by omega)
              have HB2 : Hid (Below w.heap.size w w2) := (HB.out.alloc hB1 _).grown hgrow (by simp; omega) (fun b hb => (HR.out.lt b hb).1)
              rw [HADD.out] at hown'
              have HOWN2 := Lib.hid hown'
              clear hown' hgrow
              go_wp2
              go_roundw
              case rel => exact ⟨k + 1, k + 1, n + 1, c', _, some ⟨g', 0, none⟩, by go_num, by go_num, rfl, HL2.out, HP2.out, HOWN2.out, HB2.out⟩
              case measure => simp [intOf]; omega
            · have t2 : ((s[k].toNat : Int) == 47) = false := by simpa using hc
              have h47 : t[k]'(by omega) ≠ 47 := by rw [← hg]; exact fun h => hc ((u8_eq s[k] 47 (by decide) (by decide)).2 h)
              have HP2 : Hid (PartK t (k + 1) f done) := HP.out.next (by omega) h47
              clear hc hg h47 hkk
              go_wp2
              go_roundw
              case rel => exact ⟨k + 1, f, n, c, done, A, by go_num, rfl, rfl, HN.out, HP2.out, HR.out, HB.out⟩
              case measure => simp [intOf]; omega
        · have g0 : ¬ (k : Int) ≤ (s.size : Int) := by omega
          have HS : Hid (splitS t = done) := by
            rcases HP.out with ⟨_, h, _⟩ | ⟨_, _, h⟩
            · omega
            · exact h
          go_wp2
          go_ret
          refine ⟨A, c, ?_, ?_, HB.out⟩
          · rw [HS.out, ← HN.out]; rfl
          · rw [HS.out, ← HN.out]; exact HR.out
  · have HSS : Hid (s.size = t.length + 1) := by show _ = _; rw [h1, bS_size]; rfl
    have hss := HSS.out
    have hz : (0 : Int) < (s.size : Int) := by omega
    have hz1' : (1 : Int) ≤ (s.size : Int) := by omega
    have hz0' : 0 < s.size := by omega
    have q2 : ¬ s.toList = [] := by rw [ByteArray.toList_eq, h1]; exact List.cons_ne_nil _ _
    have q1 : s.toList.isEmpty = false := List.isEmpty_eq_false_iff.2 q2
    have q3 : ((s[0].toNat : Int) == 47) = true := by
      have : s[0] = 47 := by subst h1; rfl
      rw [this]; rfl
    have hxe : s.extract 1 s.size = x := by
      rw [hx, hss, h1]
      have := extract_part (47 :: t) 1 (t.length + 1)
      rw [this]
      congr 1
      simp
    have HXE := Lib.hid hxe
    clear hx h1 hxe hss
    go_enter Tryz.func68, Tryz.ntmps68
    go_wp2_with fail
    rw [HXE.out]
    go_loopw [3, 4, 5] (fun v3 v4 v5 wr => ∃ (k f n c : Nat) (done : List (List UInt8)) (A : Option Addr), v5 = .int .i64 k ∧ v4 = .int .i64 f ∧ v3 = .slice A n c ∧ Hid (n = done.length) ∧ Hid (PartK t k f done) ∧ Hid (wr.ownsRow w.heap.size 9 1 (.slice A n c) n (strs done)) ∧ Hid (Below w.heap.size w wr)) (fun _ _ v5 _ => t.length + 2 - (intOf v5).toNat)
    case atStart => exact ⟨0, 0, 0, 0, [], none, rfl, rfl, rfl, rfl, PartK.start t, World.ownsRow_nil _ _ _ _, Below.refl _ _⟩
    case round =>
      obtain ⟨k, f, n, c, done, A, rfl, rfl, rfl, HN, HP, HR, HB⟩ := hrel
      obtain ⟨hfk, hkt⟩ := HP.out.le
      have hdl := part_len HP.out
      have hn1 : n ≤ 1048577 := by have := HN.out; omega
      have hB1 : w.heap.size ≤ wr.heap.size := HB.out.size
      by_cases hle : k ≤ t.length
      · have g0 : (k : Int) ≤ (x.size : Int) := by omega
        have g00 : (0 : Int) ≤ (k : Int) := by omega
        obtain ⟨y, hy⟩ : ∃ y, y = x.extract f k := ⟨_, rfl⟩
        have hfk2 : (f : Int) ≤ (k : Int) := by omega
        have hf0 : (0 : Int) ≤ (f : Int) := by omega
        have NEW : Hid (∀ (j : Nat) u, [Value.string (x.extract f k)][j]? = some u → (wr.alloc (.cells #[.string (x.extract f k)] 9)).cell? ((⟨wr.heap.size, 0, none⟩ : Addr).add j) = some u) := fun j u hj => by
          have : j = 0 := by
            rcases j with _ | j
            · rfl
            · simp at hj
          subst this
          show (wr.alloc _).cell? ⟨wr.heap.size, 0, none⟩ = _
          rw [World.cell?_alloc_mark]; simpa using hj
        have HADD : Hid (strs done ++ [.string (x.extract f k)] = strs (done ++ [(t.drop f).take (k - f)])) := by show _ = _; rw [HEX.out, strs_add]
        have HL2 : Hid (n + 1 = (done ++ [(t.drop f).take (k - f)]).length) := by show _ = _; rw [List.length_append, ← HN.out]; rfl
        clear hy hdl
        by_cases hkk : k = t.length
        · have t1 : ((k : Int) == (x.size : Int)) = true := by rw [beq_iff_eq]; omega
          have HP2 : Hid (PartK t (k + 1) (k + 1) (done ++ [(t.drop f).take (k - f)])) := by
            have h := HP.out
            rw [hkk] at h ⊢
            exact h.last
          clear hkk
          go_wp2_with (at_builtin; refine wpList_append_own _ rfl _ _ 22 rfl w.heap.size 9 i0 (.string ByteArray.empty) 1 16 Tryz.underlying22 hi hz0 hz1 hz2 rfl (by decide) _ _ _ rfl (HR.out.alloc _) ⟨wr.heap.size, 0, none⟩ 1 1 [.string (x.extract f k)] rfl rfl ?c1 ?c2 ?c3 ?c4 ?c5 ?_)
          case c1 => exact NEW.out
          case c2 => intro u hu; simp at hu; subst hu; rfl
          case c3 => unfold maxLen; omega
          case c4 => omega
          case c5 => simp; omega
          intro v' w2 hown' hgrow _
          obtain ⟨g', c', rfl⟩ := Joins.ownsRow_form hown' (by omega)
          have HB2 : Hid (Below w.heap.size w w2) := (HB.out.alloc hB1 _).grown hgrow (by simp; omega) (fun b hb => (HR.out.lt b hb).1)
          rw [HADD.out] at hown'
          have HOWN2 := Lib.hid hown'
          clear hown' hgrow
          go_wp2
          go_roundw
          case rel => exact ⟨k + 1, k + 1, n + 1, c', _, some ⟨g', 0, none⟩, by go_num, by go_num, rfl, HL2.out, HP2.out, HOWN2.out, HB2.out⟩
          case measure => simp [intOf]; omega
        · have t1 : ((k : Int) == (x.size : Int)) = false := by rw [beq_eq_false_iff_ne]; omega
          have hlt : k < x.size := by omega
          have hltI : (k : Int) < (x.size : Int) := by omega
          have hne : ¬ (k : Int) = (x.size : Int) := by omega
          have hg := HG.out k hlt
          by_cases hc : ((x[k].toNat : Int) = 47)
          · have t2 : ((x[k].toNat : Int) == 47) = true := by simpa using hc
            have h47 : t[k]'(by omega) = 47 := by rw [← hg]; exact (u8_eq x[k] 47 (by decide) (by decide)).1 hc
            have HP2 : Hid (PartK t (k + 1) (k + 1) (done ++ [(t.drop f).take (k - f)])) := HP.out.cut (by omega) h47
            clear hc hg h47 hkk
            go_wp2_with (at_builtin; refine wpList_append_own _ rfl _ _ 22 rfl w.heap.size 9 i0 (.string ByteArray.empty) 1 16 Tryz.underlying22 hi hz0 hz1 hz2 rfl (by decide) _ _ _ rfl (HR.out.alloc _) ⟨wr.heap.size, 0, none⟩ 1 1 [.string (x.extract f k)] rfl rfl ?c1 ?c2 ?c3 ?c4 ?c5 ?_)
            case c1 => exact NEW.out
            case c2 => intro u hu; simp at hu; subst hu; rfl
            case c3 => unfold maxLen; omega
            case c4 => omega
            case c5 => simp; omega
            intro v' w2 hown' hgrow _
            obtain ⟨g', c', rfl⟩ := Joins.ownsRow_form hown' (by omega)
            have HB2 : Hid (Below w.heap.size w w2) := (HB.out.alloc hB1 _).grown hgrow (by simp; omega) (fun b hb => (HR.out.lt b hb).1)
            rw [HADD.out] at hown'
            have HOWN2 := Lib.hid hown'
            clear hown' hgrow
            go_wp2
            go_roundw
            case rel => exact ⟨k + 1, k + 1, n + 1, c', _, some ⟨g', 0, none⟩, by go_num, by go_num, rfl, HL2.out, HP2.out, HOWN2.out, HB2.out⟩
            case measure => simp [intOf]; omega
          · have t2 : ((x[k].toNat : Int) == 47) = false := by simpa using hc
            have h47 : t[k]'(by omega) ≠ 47 := by rw [← hg]; exact fun h => hc ((u8_eq x[k] 47 (by decide) (by decide)).2 h)
            have HP2 : Hid (PartK t (k + 1) f done) := HP.out.next (by omega) h47
            clear hc hg h47 hkk
            go_wp2
            go_roundw
            case rel => exact ⟨k + 1, f, n, c, done, A, by go_num, rfl, rfl, HN.out, HP2.out, HR.out, HB.out⟩
            case measure => simp [intOf]; omega
      · have g0 : ¬ (k : Int) ≤ (x.size : Int) := by omega
        have HS : Hid (splitS t = done) := by
          rcases HP.out with ⟨_, h, _⟩ | ⟨_, _, h⟩
          · omega
          · exact h
        go_wp2
        go_ret
        refine ⟨A, c, ?_, ?_, HB.out⟩
        · rw [HS.out, ← HN.out]; rfl
        · rw [HS.out, ← HN.out]; exact HR.out
theorem rparts_any (s : ByteArray) (w : World) (hs : s.size ≤ 1048576) : Calls Tryz.prog 68 #[.string s] w (TellStrs (splitS (trimS s.data.toList)) w) := by
  have hl := len3 s
  cases h : s.data.toList with
  | nil =>
    exact rparts_loop [] w (by simp) s (.inl ⟨by rw [← bS_of s, h], by simp⟩)
  | cons c r =>
    have hr : r.length ≤ 1048576 := by rw [h] at hl; simp at hl; omega
    have e : trimS (c :: r) = if c = 47 then r else c :: r := rfl
    rw [e]
    by_cases hc : c = 47
    · rw [if_pos hc]
      subst hc
      exact rparts_loop r w hr s (.inr (by rw [← bS_of s, h]))
    · rw [if_neg hc]
      exact rparts_loop (c :: r) w (by rw [← h, hl]; exact hs) s (.inl ⟨by rw [← bS_of s, h], by simpa using hc⟩)
end Go.Proofs.YtkneafpmgbgalaaGreatDoor
