/- The contract of the reference's Parse: a text as steps, or why not. Conditions: texts of at most 2^20 bytes. -/
import Derived.Test.YtlifdmehejehjaaDoorQRPrint
import Derived.Test.YtlifdmehejehjaaDoorQParse
namespace Go.Proofs.YtlifdmehejehjaaDoor
open Go.RowKit Go.Proofs.YtlifdmehejehjaaDoor.QPlain Go.Proofs.YtlifdmehejehjaaDoor.UtfPlain Go.Proofs.YtlifdmehejehjaaDoor.NamePlain
set_option linter.unusedVariables false
set_option linter.unusedSimpArgs false
theorem Tryd.infoStepR : (Tryd.prog.info? 47).map (fun i => (i.zero, i.size, i.bytes)) = some (some (.agg #[.bool false, .bool false, .string ⟨#[]⟩]), 3, 24) := by kernel_rfl
/-- Where the reference stands: the parts behind it are steps; from here on no slash. -/
def AtP (s : ByteArray) (ps : List ByteArray) (fr i : Nat) : Prop :=
  (∀ p ∈ ps, (oneN p).2 = true) ∧ ((fr ≤ i ∧ i ≤ s.size ∧ partsN s 0 = ps ++ partsN s fr ∧ ∀ j, fr ≤ j → j < i → s.data.toList[j]? ≠ some 47) ∨ (i = s.size + 1 ∧ partsN s 0 = ps))
theorem slash_none {L : List UInt8} {i : Nat} (h : ∀ j, i ≤ j → j < L.length → L[j]? ≠ some 47) : slash L i < 0 := by
  rcases Int.lt_or_le (slash L i) 0 with h1 | h1
  · exact h1
  · have h2 := slash_lt (L := L) (i := i) (d := (slash L i).toNat) (by omega)
    exact absurd h2.2.1 (h _ (by omega) h2.1)
theorem slash_here {L : List UInt8} {i d : Nat} (h : ∀ j, i ≤ j → j < i + d → L[j]? ≠ some 47) (h1 : L[i + d]? = some 47) : slash L i = d := by
  rcases Int.lt_or_le (slash L i) 0 with h2 | h2
  · exfalso
    have h3 : Lib.indexByte (L.drop i) 47 = -1 := by
      have : ∀ (l : List UInt8), Lib.indexByte l 47 = -1 ∨ 0 ≤ Lib.indexByte l 47 := by
        intro l
        induction l with
        | nil => exact .inl rfl
        | cons b l ih =>
          unfold Lib.indexByte
          split
          · exact .inr (Int.le_refl 0)
          · split
            · exact .inl rfl
            · rename_i h9
              rcases ih with ih | ih
              · rw [ih] at h9; exact absurd (by decide) h9
              · exact .inr (by omega)
      rcases this (L.drop i) with h4 | h4
      · exact h4
      · unfold slash at h2; omega
    have := Lib.indexByte_none h3 d
    rw [List.getElem?_drop] at this
    exact this h1
  · obtain ⟨e, he⟩ : ∃ e : Nat, slash L i = e := ⟨_, (Int.toNat_of_nonneg h2).symm⟩
    have h3 := slash_lt he
    rw [he]
    rcases Nat.lt_trichotomy e d with h4 | h4 | h4
    · exact absurd h3.2.1 (h _ (by omega) (by omega))
    · rw [h4]
    · exact absurd h1 (h3.2.2 _ (by omega) (by omega))
theorem AtP.start (s : ByteArray) : AtP s [] 0 0 := ⟨by simp, .inl ⟨Nat.le_refl _, Nat.zero_le _, by simp, fun j _ h => by omega⟩⟩
theorem AtP.skip {s : ByteArray} {ps : List ByteArray} {fr i : Nat} (h : AtP s ps fr i) (hi : i < s.size) (hb : s.data.toList[i]? ≠ some 47) : AtP s ps fr (i + 1) := by
  refine ⟨h.1, ?_⟩
  rcases h.2 with ⟨h1, h2, h3, h4⟩ | ⟨h1, h2⟩
  · exact .inl ⟨by omega, by omega, h3, fun j hj hj2 => by
      rcases Nat.lt_or_eq_of_le (Nat.lt_succ_iff.1 hj2) with h5 | rfl
      · exact h4 j hj h5
      · exact hb⟩
  · omega
/-- The part that ends here. -/
theorem AtP.part {s : ByteArray} {ps : List ByteArray} {fr i : Nat} (h : AtP s ps fr i) (hi : i ≤ s.size) (hb : i < s.size → s.data.toList[i]? = some 47) :
    fr ≤ i ∧ ∃ qs, partsN s 0 = ps ++ s.extract fr i :: qs ∧ ((oneN (s.extract fr i)).2 = true → AtP s (ps ++ [s.extract fr i]) (i + 1) (i + 1)) := by
  have hlen : s.data.toList.length = s.size := by rw [Array.length_toList]; rfl
  rcases h.2 with ⟨h1, h2, h3, h4⟩ | ⟨h1, h2⟩
  · refine ⟨h1, ?_⟩
    have hall : (oneN (s.extract fr i)).2 = true → ∀ p ∈ ps ++ [s.extract fr i], (oneN p).2 = true := fun ho p hp => by
      rcases List.mem_append.1 hp with hp | hp
      · exact h.1 p hp
      · simp at hp; subst hp; exact ho
    rcases Nat.lt_or_eq_of_le hi with hlt | rfl
    · have hd : slash s.data.toList fr = ((i - fr : Nat) : Int) := slash_here (fun j hj hj2 => h4 j hj (by omega)) (by rw [show fr + (i - fr) = i by omega]; exact hb hlt)
      have hp : partsN s fr = s.extract fr i :: partsN s (i + 1) := by
        unfold partsN
        rw [cutsN_yes hd, show fr + (i - fr) = i by omega]; rfl
      exact ⟨partsN s (i + 1), by rw [h3, hp], fun ho => ⟨hall ho, .inl ⟨Nat.le_refl _, by omega, by rw [h3, hp]; simp, fun j _ _ => by omega⟩⟩⟩
    · have hd : slash s.data.toList fr < 0 := slash_none (fun j hj hj2 => h4 j hj (by omega))
      have hp : partsN s fr = [s.extract fr s.size] := by
        unfold partsN
        rw [cutsN_no hd, hlen]; rfl
      exact ⟨[], by rw [h3, hp], fun ho => ⟨hall ho, .inr ⟨rfl, by rw [h3, hp]⟩⟩⟩
  · omega
theorem parse_bad {s p : ByteArray} {ps qs : List ByteArray} (h1 : ∀ p ∈ ps, (oneN p).2 = true) (h2 : partsN s 0 = ps ++ p :: qs) (h3 : (oneN p).2 = false) : parseN s = ([], 7) := by
  unfold parseN
  rw [h2, stepsN_bad ps h1 p h3]
theorem parse_end {s : ByteArray} {ps : List ByteArray} {fr i : Nat} (h : AtP s ps fr i) (hi : s.size < i) : parseN s = if 64 < ps.length then ([], 13) else (stsOf ps, 0) := by
  rcases h.2 with ⟨_, h2, _⟩ | ⟨_, h2⟩
  · omega
  · unfold parseN
    rw [h2, stepsN_all ps h.1]
    show (if 64 < (stsOf ps).length then _ else _) = _
    rw [show (stsOf ps).length = ps.length by simp [stsOf]]; rfl
def RetPz (r : List StN × Int) (w : World) (e : Ending) (w' : World) : Prop := ∃ A c, e = .returned (.tuple #[.slice A r.1.length c, .int .i64 r.2]) ∧ r.1.length ≤ c ∧ c ≤ 9223372036854775807 ∧ StsAt w' A r.1.length r.1 ∧ Below w.heap.size w w'
theorem three_news (a d : Bool) (s : ByteArray) : ∀ u ∈ [Value.bool a, .bool d, .string s], u.oneCell' = true := by
  intro u hu; simp at hu; rcases hu with rfl | rfl | rfl <;> rfl
theorem one_star {p : ByteArray} (h : p = ⟨#[42]⟩) : oneN p = (⟨true, false, ⟨#[]⟩⟩, true) := by unfold oneN; rw [if_pos h]
theorem one_two {p : ByteArray} (h : ¬ p = ⟨#[42]⟩) (h2 : p = ⟨#[42, 42]⟩) : oneN p = (⟨false, true, ⟨#[]⟩⟩, true) := by unfold oneN; rw [if_neg h, if_pos h2]
theorem one_name {p : ByteArray} (h : ¬ p = ⟨#[42]⟩) (h2 : ¬ p = ⟨#[42, 42]⟩) : oneN p = (⟨false, false, p⟩, isN (bsOf p) true) := by unfold oneN; rw [if_neg h, if_neg h2]
set_option maxRecDepth 100000 in
set_option maxHeartbeats 8000000 in
theorem rparse_any (s : ByteArray) (w : World) (hlen : s.size ≤ 1048576) :
    Calls Tryd.prog 15 #[.string s] w (RetPz (parseN s) w) := by
  obtain ⟨i0, hi0, hz0, hz1, hz2⟩ := info_parts Tryd.infoStepR
  obtain ⟨r, hr⟩ : ∃ r, r = parseN s := ⟨_, rfl⟩
  rw [← hr]
  have HR := Lib.hid hr
  clear hr
  go_enter Tryd.func15, Tryd.ntmps15
  go_wp2
  go_loopw [4, 5, 6] (fun o f i' wr => ∃ (i fr : Nat) (ps : List ByteArray) (v : Value), v = o ∧ f = .int .i64 fr ∧ i' = .int .i64 i ∧ i ≤ s.size + 1 ∧ ps.length ≤ i ∧ Hid (AtP s ps fr i) ∧ Hid (wr.ownsRow w.heap.size 47 3 v ps.length (stCells (stsOf ps))) ∧ Hid (Below w.heap.size w wr)) (fun _ _ i _ => s.size + 1 - (intOf i).toNat)
  case atStart => exact ⟨0, 0, [], _, rfl, rfl, rfl, by omega, Nat.le_refl _, AtP.start s, World.ownsRow_nil _ _ _ _, Below.refl _ _⟩
  case round =>
    obtain ⟨i, fr, ps, v, rfl, rfl, rfl, hi, hpl, HA, HO, HB⟩ := hrel
    by_cases hlt : i ≤ s.size
    · have b0 : (i : Int) ≤ (s.size : Int) := by omega
      have b9 : (0 : Int) ≤ (i : Int) := by omega
      by_cases hsk : ∃ h : i < s.size, ¬ s[i] = 47
      · obtain ⟨h1, h2⟩ := hsk
        have b1 : (i : Int) < (s.size : Int) := by omega
        have t1 : ((s[i].toNat : Int) == 47) = false := by
          rw [beq_eq_false_iff_ne]
          intro e
          apply h2
          apply UInt8.toNat.inj
          show s[i].toNat = 47
          omega
        have HA2 := Lib.hid (HA.out.skip h1 (by
          intro e
          rw [List.getElem?_eq_some_iff] at e
          obtain ⟨h3, h4⟩ := e
          exact h2 (by rw [Array.getElem_toList] at h4; exact h4)))
        clear h2
        go_wp2
        go_roundw
        case rel => exact ⟨i + 1, fr, ps, v, rfl, rfl, by go_num, by omega, by omega, HA2, HO, HB⟩
        case measure => simp [intOf]; omega
      · have hpart := HA.out.part hlt (fun h => by
          have h2 : s[i] = 47 := Classical.byContradiction fun h2 => hsk ⟨h, h2⟩
          rw [List.getElem?_eq_some_iff]
          exact ⟨by rw [Array.length_toList]; exact h, by rw [Array.getElem_toList]; exact h2⟩)
        obtain ⟨hfr, qs, hqs, hat⟩ := hpart
        have hbad := fun h3 => HR.out.trans (parse_bad HA.out.1 hqs h3)
        have b2 : (fr : Int) ≤ (i : Int) := by omega
        have b3 : (0 : Int) ≤ (fr : Int) := by omega
        have hps : (s.extract fr i).size ≤ 1048576 := by rw [ByteArray.size_extract]; omega
        have HAT := Lib.hid hat
        have HBAD := Lib.hid hbad
        have HPS := Lib.hid hps
        have HL2 : Hid ((ps ++ [s.extract fr i]).length = ps.length + 1) := by show _ = _; simp
        have HST : Hid (stCells (stsOf (ps ++ [s.extract fr i])) = stCells (stsOf ps) ++ [.bool (oneN (s.extract fr i)).1.any, .bool (oneN (s.extract fr i)).1.deep, .string (oneN (s.extract fr i)).1.nm]) := by
          show _ = _
          unfold stsOf
          rw [List.map_append, stCells_append]; rfl
        have hdec : (i < s.size ∧ ∃ h : i < s.size, s[i] = 47) ∨ i = s.size := by
          rcases Nat.lt_or_eq_of_le hlt with h | h
          · exact .inl ⟨h, h, Classical.byContradiction fun h2 => hsk ⟨h, h2⟩⟩
          · exact .inr h
        clear hat hbad hps hqs hsk
        rcases hdec with ⟨hlt2, h3, h47⟩ | rfl
        · have b1 : (i : Int) < (s.size : Int) := by omega
          have t1 : ((s[i].toNat : Int) == 47) = true := by rw [h47]; rfl
          clear h47
          by_cases h1 : s.extract fr i = ⟨#[42]⟩
          · have ho := one_star h1
            have HA2 := Lib.hid (HAT.out (by rw [ho]))
            have HC := Lib.hid (HST.out.trans (by rw [ho]))
            have g1 : ((s.extract fr i).toList == [42]) = true := by rw [h1]; simp
            clear ho h1
            obtain ⟨U, hU⟩ : ∃ U, U = wr := ⟨_, rfl⟩
            subst hU
            have HOU := HO
            have HBU := HB
            have hzU := HBU.out.size
            go_wp2_with (at_builtin; refine wpList_append_own_at _ rfl (.tmp 32) (.tmp 34) 22 rfl w.heap.size 47 i0 (.agg #[.bool false, .bool false, .string ⟨#[]⟩]) 3 24 Tryd.underlying22 hi0 hz0 hz1 hz2 rfl (by decide) _ _ _ rfl (HOU.out.alloc _) ⟨U.heap.size, 0, none⟩ 1 1 [.bool true, .bool false, .string ⟨#[]⟩] rfl rfl (rowCell3 _ _ _ _ _) ?k2 ?k3 ?k4 ?k5 ?_)
            case k2 => first | exact three_news _ _ _ | simp [Value.oneCell']
            case k3 => unfold maxLen; omega
            case k4 => omega
            case k5 => first | omega | (simp; omega)
            intro o' w5 hown' hgrow _ hblk
            have HB5 := Lib.hid ((HBU.out.alloc hzU _).grown hgrow (by simp; omega) (fun g hg => (HOU.out.lt g hg).1))
            rw [← HC.out] at hown'
            have HO5 := Lib.hid hown'
            clear hown' hgrow hblk
            go_wp2
            go_roundw
            case rel => exact ⟨i + 1, i + 1, ps ++ [s.extract fr i], _, rfl, (by first | rfl | go_num), (by first | rfl | go_num), by omega, by rw [HL2.out]; omega, HA2, by rw [HL2.out]; exact HO5, HB5⟩
            case measure => first | (simp [intOf]; done) | (simp [intOf]; omega)
          · by_cases h2 : s.extract fr i = ⟨#[42, 42]⟩
            · have ho := one_two h1 h2
              have HA2 := Lib.hid (HAT.out (by rw [ho]))
              have HC := Lib.hid (HST.out.trans (by rw [ho]))
              have g1 : ((s.extract fr i).toList == [42]) = false := sL_lit h1
              have g2 : ((s.extract fr i).toList == [42, 42]) = true := by rw [h2]; simp
              clear ho h1 h2
              obtain ⟨U, hU⟩ : ∃ U, U = wr := ⟨_, rfl⟩
              subst hU
              have HOU := HO
              have HBU := HB
              have hzU := HBU.out.size
              go_wp2_with (at_builtin; refine wpList_append_own_at _ rfl (.tmp 38) (.tmp 40) 22 rfl w.heap.size 47 i0 (.agg #[.bool false, .bool false, .string ⟨#[]⟩]) 3 24 Tryd.underlying22 hi0 hz0 hz1 hz2 rfl (by decide) _ _ _ rfl (HOU.out.alloc _) ⟨U.heap.size, 0, none⟩ 1 1 [.bool false, .bool true, .string ⟨#[]⟩] rfl rfl (rowCell3 _ _ _ _ _) ?k2 ?k3 ?k4 ?k5 ?_)
              case k2 => first | exact three_news _ _ _ | simp [Value.oneCell']
              case k3 => unfold maxLen; omega
              case k4 => omega
              case k5 => first | omega | (simp; omega)
              intro o' w5 hown' hgrow _ hblk
              have HB5 := Lib.hid ((HBU.out.alloc hzU _).grown hgrow (by simp; omega) (fun g hg => (HOU.out.lt g hg).1))
              rw [← HC.out] at hown'
              have HO5 := Lib.hid hown'
              clear hown' hgrow hblk
              go_wp2
              go_roundw
              case rel => exact ⟨i + 1, i + 1, ps ++ [s.extract fr i], _, rfl, (by first | rfl | go_num), (by first | rfl | go_num), by omega, by rw [HL2.out]; omega, HA2, by rw [HL2.out]; exact HO5, HB5⟩
              case measure => first | (simp [intOf]; done) | (simp [intOf]; omega)
            · have ho := one_name h1 h2
              have RI := ris_text true (s.extract fr i) wr (Nat.le_trans HPS.out (by decide))
              have g1 : ((s.extract fr i).toList == [42]) = false := sL_lit h1
              have g2 : ((s.extract fr i).toList == [42, 42]) = false := sL_lit h2
              cases hb : isN (bsOf (s.extract fr i)) true with
              | true =>
                rw [hb] at ho RI
                have RI := Lib.hid RI
                have HA2 := Lib.hid (HAT.out (by rw [ho]))
                have HC := Lib.hid (HST.out.trans (by rw [ho]))
                clear ho h1 h2 hb
                go_wp2_with fail
                refine RI.out.mono ?_
                rintro e U ⟨rfl, hBU⟩
                have HBU := Lib.hid (HB.out.trans (hBU.mono HB.out.size))
                have HOU := Lib.hid (ownRow_below HO.out hBU)
                have hzU := HBU.out.size
                clear hBU RI
                go_wp2_with (at_builtin; refine wpList_append_own_at _ rfl (.tmp 44) (.tmp 47) 22 rfl w.heap.size 47 i0 (.agg #[.bool false, .bool false, .string ⟨#[]⟩]) 3 24 Tryd.underlying22 hi0 hz0 hz1 hz2 rfl (by decide) _ _ _ rfl (HOU.out.alloc _) ⟨U.heap.size, 0, none⟩ 1 1 [.bool false, .bool false, .string (s.extract fr i)] rfl rfl (rowCell3 _ _ _ _ _) ?k2 ?k3 ?k4 ?k5 ?_)
                case k2 => first | exact three_news _ _ _ | simp [Value.oneCell']
                case k3 => unfold maxLen; omega
                case k4 => omega
                case k5 => first | omega | (simp; omega)
                intro o' w5 hown' hgrow _ hblk
                have HB5 := Lib.hid ((HBU.out.alloc hzU _).grown hgrow (by simp; omega) (fun g hg => (HOU.out.lt g hg).1))
                rw [← HC.out] at hown'
                have HO5 := Lib.hid hown'
                clear hown' hgrow hblk
                go_wp2
                go_roundw
                case rel => exact ⟨i + 1, i + 1, ps ++ [s.extract fr i], _, rfl, (by first | rfl | go_num), (by first | rfl | go_num), by omega, by rw [HL2.out]; omega, HA2, by rw [HL2.out]; exact HO5, HB5⟩
                case measure => first | (simp [intOf]; done) | (simp [intOf]; omega)
              | false =>
                rw [hb] at ho RI
                have RI := Lib.hid RI
                have HQ := Lib.hid (HBAD.out (by rw [ho]))
                clear ho h1 h2 hb
                go_wp2_with fail
                refine RI.out.mono ?_
                rintro e U ⟨rfl, hBU⟩
                have HBU := Lib.hid (HB.out.trans (hBU.mono HB.out.size))
                clear hBU RI
                go_wp2
                go_ret2
                rw [HQ.out]
                exact ⟨none, 0, rfl, Nat.le_refl _, by omega, ⟨rfl, fun i hi => absurd hi (by simp)⟩, HBU.out⟩
        · have b1 : ¬ (s.size : Int) < (s.size : Int) := by omega
          by_cases h1 : s.extract fr s.size = ⟨#[42]⟩
          · have ho := one_star h1
            have HA2 := Lib.hid (HAT.out (by rw [ho]))
            have HC := Lib.hid (HST.out.trans (by rw [ho]))
            have g1 : ((s.extract fr s.size).toList == [42]) = true := by rw [h1]; simp
            clear ho h1
            obtain ⟨U, hU⟩ : ∃ U, U = wr := ⟨_, rfl⟩
            subst hU
            have HOU := HO
            have HBU := HB
            have hzU := HBU.out.size
            go_wp2_with (at_builtin; refine wpList_append_own_at _ rfl (.tmp 32) (.tmp 34) 22 rfl w.heap.size 47 i0 (.agg #[.bool false, .bool false, .string ⟨#[]⟩]) 3 24 Tryd.underlying22 hi0 hz0 hz1 hz2 rfl (by decide) _ _ _ rfl (HOU.out.alloc _) ⟨U.heap.size, 0, none⟩ 1 1 [.bool true, .bool false, .string ⟨#[]⟩] rfl rfl (rowCell3 _ _ _ _ _) ?k2 ?k3 ?k4 ?k5 ?_)
            case k2 => first | exact three_news _ _ _ | simp [Value.oneCell']
            case k3 => unfold maxLen; omega
            case k4 => omega
            case k5 => first | omega | (simp; omega)
            intro o' w5 hown' hgrow _ hblk
            have HB5 := Lib.hid ((HBU.out.alloc hzU _).grown hgrow (by simp; omega) (fun g hg => (HOU.out.lt g hg).1))
            rw [← HC.out] at hown'
            have HO5 := Lib.hid hown'
            clear hown' hgrow hblk
            go_wp2
            go_roundw
            case rel => exact ⟨s.size + 1, s.size + 1, ps ++ [s.extract fr s.size], _, rfl, (by first | rfl | go_num), (by first | rfl | go_num), by omega, by rw [HL2.out]; omega, HA2, by rw [HL2.out]; exact HO5, HB5⟩
            case measure => first | (simp [intOf]; done) | (simp [intOf]; omega)
          · by_cases h2 : s.extract fr s.size = ⟨#[42, 42]⟩
            · have ho := one_two h1 h2
              have HA2 := Lib.hid (HAT.out (by rw [ho]))
              have HC := Lib.hid (HST.out.trans (by rw [ho]))
              have g1 : ((s.extract fr s.size).toList == [42]) = false := sL_lit h1
              have g2 : ((s.extract fr s.size).toList == [42, 42]) = true := by rw [h2]; simp
              clear ho h1 h2
              obtain ⟨U, hU⟩ : ∃ U, U = wr := ⟨_, rfl⟩
              subst hU
              have HOU := HO
              have HBU := HB
              have hzU := HBU.out.size
              go_wp2_with (at_builtin; refine wpList_append_own_at _ rfl (.tmp 38) (.tmp 40) 22 rfl w.heap.size 47 i0 (.agg #[.bool false, .bool false, .string ⟨#[]⟩]) 3 24 Tryd.underlying22 hi0 hz0 hz1 hz2 rfl (by decide) _ _ _ rfl (HOU.out.alloc _) ⟨U.heap.size, 0, none⟩ 1 1 [.bool false, .bool true, .string ⟨#[]⟩] rfl rfl (rowCell3 _ _ _ _ _) ?k2 ?k3 ?k4 ?k5 ?_)
              case k2 => first | exact three_news _ _ _ | simp [Value.oneCell']
              case k3 => unfold maxLen; omega
              case k4 => omega
              case k5 => first | omega | (simp; omega)
              intro o' w5 hown' hgrow _ hblk
              have HB5 := Lib.hid ((HBU.out.alloc hzU _).grown hgrow (by simp; omega) (fun g hg => (HOU.out.lt g hg).1))
              rw [← HC.out] at hown'
              have HO5 := Lib.hid hown'
              clear hown' hgrow hblk
              go_wp2
              go_roundw
              case rel => exact ⟨s.size + 1, s.size + 1, ps ++ [s.extract fr s.size], _, rfl, (by first | rfl | go_num), (by first | rfl | go_num), by omega, by rw [HL2.out]; omega, HA2, by rw [HL2.out]; exact HO5, HB5⟩
              case measure => first | (simp [intOf]; done) | (simp [intOf]; omega)
            · have ho := one_name h1 h2
              have RI := ris_text true (s.extract fr s.size) wr (Nat.le_trans HPS.out (by decide))
              have g1 : ((s.extract fr s.size).toList == [42]) = false := sL_lit h1
              have g2 : ((s.extract fr s.size).toList == [42, 42]) = false := sL_lit h2
              cases hb : isN (bsOf (s.extract fr s.size)) true with
              | true =>
                rw [hb] at ho RI
                have RI := Lib.hid RI
                have HA2 := Lib.hid (HAT.out (by rw [ho]))
                have HC := Lib.hid (HST.out.trans (by rw [ho]))
                clear ho h1 h2 hb
                go_wp2_with fail
                refine RI.out.mono ?_
                rintro e U ⟨rfl, hBU⟩
                have HBU := Lib.hid (HB.out.trans (hBU.mono HB.out.size))
                have HOU := Lib.hid (ownRow_below HO.out hBU)
                have hzU := HBU.out.size
                clear hBU RI
                go_wp2_with (at_builtin; refine wpList_append_own_at _ rfl (.tmp 44) (.tmp 47) 22 rfl w.heap.size 47 i0 (.agg #[.bool false, .bool false, .string ⟨#[]⟩]) 3 24 Tryd.underlying22 hi0 hz0 hz1 hz2 rfl (by decide) _ _ _ rfl (HOU.out.alloc _) ⟨U.heap.size, 0, none⟩ 1 1 [.bool false, .bool false, .string (s.extract fr s.size)] rfl rfl (rowCell3 _ _ _ _ _) ?k2 ?k3 ?k4 ?k5 ?_)
                case k2 => first | exact three_news _ _ _ | simp [Value.oneCell']
                case k3 => unfold maxLen; omega
                case k4 => omega
                case k5 => first | omega | (simp; omega)
                intro o' w5 hown' hgrow _ hblk
                have HB5 := Lib.hid ((HBU.out.alloc hzU _).grown hgrow (by simp; omega) (fun g hg => (HOU.out.lt g hg).1))
                rw [← HC.out] at hown'
                have HO5 := Lib.hid hown'
                clear hown' hgrow hblk
                go_wp2
                go_roundw
                case rel => exact ⟨s.size + 1, s.size + 1, ps ++ [s.extract fr s.size], _, rfl, (by first | rfl | go_num), (by first | rfl | go_num), by omega, by rw [HL2.out]; omega, HA2, by rw [HL2.out]; exact HO5, HB5⟩
                case measure => first | (simp [intOf]; done) | (simp [intOf]; omega)
              | false =>
                rw [hb] at ho RI
                have RI := Lib.hid RI
                have HQ := Lib.hid (HBAD.out (by rw [ho]))
                clear ho h1 h2 hb
                go_wp2_with fail
                refine RI.out.mono ?_
                rintro e U ⟨rfl, hBU⟩
                have HBU := Lib.hid (HB.out.trans (hBU.mono HB.out.size))
                clear hBU RI
                go_wp2
                go_ret2
                rw [HQ.out]
                exact ⟨none, 0, rfl, Nat.le_refl _, by omega, ⟨rfl, fun i hi => absurd hi (by simp)⟩, HBU.out⟩
    · have hend := HR.out.trans (parse_end HA.out (by omega))
      have b0 : ¬ (i : Int) ≤ (s.size : Int) := by omega
      obtain ⟨A2, c2, rfl⟩ := ownRow_shape HO.out
      obtain ⟨h1, h2, _⟩ := ownRow_cap HO.out
      have hl : (stsOf ps).length = ps.length := by simp [stsOf]
      have hst : StsAt wr A2 ps.length (stsOf ps) := by
        have h := HO.out
        rw [← hl] at h ⊢
        exact StsAt.of_own h
      have HST := Lib.hid hst
      have HL := Lib.hid hl
      by_cases h64 : 64 < ps.length
      · have t1 : (64 : Int) < (ps.length : Int) := by omega
        rw [if_pos h64] at hend
        have HE := Lib.hid hend
        clear hend hst hl
        go_wp2
        go_ret2
        rw [HE.out]
        exact ⟨none, 0, rfl, Nat.le_refl _, by omega, ⟨rfl, fun i hi => absurd hi (by simp)⟩, HB.out⟩
      · have t1 : ¬ (64 : Int) < (ps.length : Int) := by omega
        rw [if_neg h64] at hend
        have HE := Lib.hid hend
        clear hend hst hl
        go_wp2
        go_ret2
        rw [HE.out]
        exact ⟨A2, c2, by rw [HL.out]; rfl, by rw [HL.out]; exact h1, h2, by rw [HL.out]; exact HST.out, HB.out⟩
end Go.Proofs.YtlifdmehejehjaaDoor
