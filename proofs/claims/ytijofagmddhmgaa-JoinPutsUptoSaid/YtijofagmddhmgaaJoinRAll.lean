/- The walk of narthexref37.All. Conditions: at most 2^20 events, of at most 2^20 bytes together. -/
import Derived.Test.YtijofagmddhmgaaJoinRef
namespace Go.Proofs.Ytijofagmddhmgaa
open Go.RowKit
theorem evCell_new (w : World) (k s l a x : Value) (t : TypeId) : ∀ j u, [k, s, l, a, x][j]? = some u → (w.alloc (.cells #[k, s, l, a, x] t)).cell? ((⟨w.heap.size, 0, none⟩ : Addr).add j) = some u := by
  intro j u hj
  match j, hj with
  | 0, hj => simp at hj; subst hj; simp [Addr.add]
  | 1, hj => simp at hj; subst hj; simp [Addr.add]
  | 2, hj => simp at hj; subst hj; simp [Addr.add]
  | 3, hj => simp at hj; subst hj; simp [Addr.add]
  | 4, hj => simp at hj; subst hj; simp [Addr.add]
  | (j + 5), hj => simp at hj
theorem evVals_one (k : Int) (s l : ByteArray) (a : Option Addr) (n c : Nat) (x : ByteArray) : ∀ u ∈ ([.int .i64 k, .string s, .string l, .slice a n c, .string x] : List Value), u.oneCell' = true := by
  intro u hu
  simp only [List.mem_cons, List.not_mem_nil, or_false] at hu
  rcases hu with rfl | rfl | rfl | rfl | rfl <;> rfl
theorem ownRow_belowJ {w w' : World} {base : Nat} {e : TypeId} {size : Nat} {v : Value} {n : Nat} {xs : List Value} (h : w.ownsRow base e size v n xs) (hb : Below w.heap.size w w') : w'.ownsRow base e size v n xs := by
  refine ⟨h.1, ?_⟩
  rcases h.2 with h2 | ⟨g, cap, cur, hv, hg, hh, r⟩
  · exact .inl h2
  · refine .inr ⟨g, cap, cur, hv, hg, ?_, r⟩
    rcases Nat.lt_or_ge g w.heap.size with hlt | hge
    · rw [hb.block g hlt]; exact hh
    · rw [Array.getElem?_eq_none hge] at hh; cases hh
theorem ownRow_shapeJ {w : World} {base size n : Nat} {e : TypeId} {v : Value} {xs : List Value} (h : w.ownsRow base e size v n xs) : ∃ A c, v = .slice A n c := by
  rcases h.2 with ⟨h1, h2⟩ | ⟨g, cap, cur, hv, _⟩
  · exact ⟨none, 0, by rw [h1, h2]⟩
  · exact ⟨_, cap, hv⟩
theorem ownRow_capJ {w : World} {base size n m c : Nat} {e : TypeId} {A : Option Addr} {xs : List Value} (h : w.ownsRow base e size (.slice A m c) n xs) : n ≤ c ∧ c ≤ 9223372036854775807 ∧ m = n := by
  rcases h.2 with ⟨h1, h2⟩ | ⟨g, cap, cur, h1, _, _, h3, h4, _⟩
  · cases h1; omega
  · cases h1; unfold maxLen at h4; omega
def stJ (l : List Ev) (k : Nat) : List Ev × ByteArray := if k ≤ l.length then runJ l k else (allJ l, ⟨#[]⟩)
theorem stJ_in {l : List Ev} {k : Nat} (h : k ≤ l.length) : stJ l k = runJ l k := if_pos h
theorem stJ_end (l : List Ev) : stJ l (l.length + 1) = (allJ l, ⟨#[]⟩) := if_neg (by omega)
theorem toE_no {t : ByteArray} (h : ¬ t = ⟨#[]⟩) : (t.toList == []) = false := by
  have h1 := toL_no h
  simpa using h1
set_option maxRecDepth 100000 in
set_option maxHeartbeats 4000000 in
theorem rall_any (A : Option Addr) (n c : Nat) (l : List Ev) (w : World) (hl : EvsAt w A n l) (hn : n ≤ 1048576) (hs : evSum l ≤ 1048576) :
    Calls Try.prog 18 #[.slice A n c] w (TellEvs (allJ l) w) := by
  obtain ⟨i0, hi0, hz0, hz1, hz2⟩ := info_parts Try.infoEvent
  have L := Lib.hid hl
  have LN := Lib.hid hl.1
  have OKS := Lib.hid hl.ok
  clear hl
  go_enter Try.func18, Try.ntmps18
  go_wp2
  go_loopw [3, 4, 5] (fun o s i wr => ∃ (k : Nat) (p : List Ev) (t : ByteArray), k ≤ n + 1 ∧ i = .int .i64 k ∧ s = .string t ∧ Hid (stJ l k = (p, t)) ∧ Hid (wr.ownsRow w.heap.size 31 5 o p.length (evCells p)) ∧ Hid (Below w.heap.size w wr)) (fun _ _ i _ => n + 1 - (intOf i).toNat)
  case atStart => exact ⟨0, [], ⟨#[]⟩, by omega, rfl, rfl, stJ_in (Nat.zero_le _), World.ownsRow_nil _ _ _ _, Below.refl _ _⟩
  case round =>
    obtain ⟨k, p, t, hk, rfl, rfl, HS, HO, HB⟩ := hrel
    by_cases hlt : k ≤ n
    · have b3 : (k : Int) ≤ (n : Int) := by omega
      have hrun : runJ l k = (p, t) := by rw [← stJ_in (by rw [LN.out]; exact hlt)]; exact HS.out
      have hpl : p.length ≤ 2 * k := by have := runJ_len l k; rw [hrun] at this; exact this
      have htl : t.size ≤ 1048576 := by have h1 := runJ_size l k; have h2 := evSum_le l k; rw [hrun] at h1; simp only at h1; omega
      have RU := Lib.hid hrun
      clear hrun HS
      by_cases hkn : k < n
      · have b0 : (0 : Int) ≤ (k : Int) := by omega
        have b1 : (k : Int) < (n : Int) := by omega
        obtain ⟨a, e, hA, hx, he, hok⟩ := L.out.2 k hkn
        subst hA
        obtain ⟨_, g0, g1, g2, g3, g4⟩ := he.below HB.out he.1
        have hR := runJ_succ l k e hx
        rw [RU.out] at hR
        have h3 : e.tx.size ≤ evSum l := Nat.le_trans (by unfold Ev.all Ev.size; omega : e.tx.size ≤ e.all) (evSum_mem hx)
        have hst : stJ l (k + 1) = runJ l (k + 1) := stJ_in (by rw [LN.out]; omega)
        have EV := Lib.hid he
        by_cases h : e.k = 3
        · have q1 : (e.k == 3) = true := by simpa using h
          have F := Lib.hid (show stJ l (k + 1) = (p, t ++ e.tx) by rw [hst, hR]; unfold stepJ; rw [if_pos h])
          have hS := fun w' => run_string_add (P := Try.prog) w' t e.tx (by omega) (by omega)
          clear h hx hok he hR hst
          go_wp2
          go_roundw
          case rel => exact ⟨k + 1, p, t ++ e.tx, by omega, by go_num, rfl, F.out, HO, HB⟩
          case measure => simp [intOf]; omega
        · have q1 : (e.k == 3) = false := by simpa using h
          by_cases ht : t = ⟨#[]⟩
          · have F := Lib.hid (show stJ l (k + 1) = (p ++ [e], ⟨#[]⟩) by rw [hst, hR]; unfold stepJ flushJ; rw [if_neg h]; simp only [ht, if_true])
            subst ht
            have hHO := HO.out
            have hHB := HB.out
            have hsz := hHB.size
            clear h hx hok he hR hst
            go_wp2_with (at_builtin; refine wpList_append_own _ rfl (.tmp 42) (.tmp 47) 22 rfl w.heap.size 31 i0 (.agg #[.int .i64 0, .string ⟨#[]⟩, .string ⟨#[]⟩, .slice none 0 0, .string ⟨#[]⟩]) 5 80 Try.underlying22 hi0 hz0 hz1 hz2 rfl (by decide) _ _ _ rfl (hHO.alloc _) ⟨wr.heap.size, 0, none⟩ 1 1 [.int .i64 e.k, .string e.sp, .string e.lo, .slice e.A e.n e.c, .string e.tx] rfl rfl (evCell_new _ _ _ _ _ _ _) ?k2 ?k3 ?k4 ?k5 ?_)
            case k2 => (first | exact evVals_one _ _ _ _ _ _ _ | exact ⟨rfl, rfl, rfl, rfl⟩)
            case k3 => unfold maxLen; omega
            case k4 => omega
            case k5 => (first | omega | (simp; omega))
            intro v' w2 hown' hgrow _
            have HB2 := Lib.hid ((hHB.alloc hsz _).grown hgrow (by simp; omega) (fun g hg => (hHO.lt g hg).1))
            go_wp2
            go_roundw
            case rel =>
              refine ⟨k + 1, p ++ [e], ⟨#[]⟩, by omega, by go_num, rfl, F.out, ?_, HB2⟩
              show World.ownsRow _ _ _ _ _ _ _
              rw [List.length_append, evCells_append]
              exact hown'
            case measure => simp [intOf]; omega
          · have q2 := toE_no ht
            obtain ⟨p2, hp2⟩ : ∃ p2, p ++ [textEv t] = p2 := ⟨_, rfl⟩
            have F := Lib.hid (show stJ l (k + 1) = (p2 ++ [e], ⟨#[]⟩) by rw [← hp2, hst, hR]; unfold stepJ flushJ; rw [if_neg h]; simp only [if_neg ht])
            have hpl2 : p2.length ≤ 2 * k + 1 := by rw [← hp2, List.length_append]; simp; omega
            have P2 := Lib.hid hp2
            clear hp2
            have hHO := HO.out
            have hHB := HB.out
            have hsz := hHB.size
            clear h hx hok he hR hst ht
            go_wp2_with (at_builtin; refine wpList_append_own _ rfl (.tmp 33) (.tmp 36) 22 rfl w.heap.size 31 i0 (.agg #[.int .i64 0, .string ⟨#[]⟩, .string ⟨#[]⟩, .slice none 0 0, .string ⟨#[]⟩]) 5 80 Try.underlying22 hi0 hz0 hz1 hz2 rfl (by decide) _ _ _ rfl (hHO.alloc _) ⟨wr.heap.size, 0, none⟩ 1 1 [.int .i64 3, .string ⟨#[]⟩, .string ⟨#[]⟩, .slice none 0 0, .string t] rfl rfl (evCell_new _ _ _ _ _ _ _) ?k2 ?k3 ?k4 ?k5 ?_)
            case k2 => (first | exact evVals_one _ _ _ _ _ _ _ | exact ⟨rfl, rfl, rfl, rfl⟩)
            case k3 => unfold maxLen; omega
            case k4 => omega
            case k5 => (first | omega | (simp; omega))
            intro v' w2 hown' hgrow _
            have hB2 := (hHB.alloc hsz _).grown hgrow (by simp; omega) (fun g hg => (hHO.lt g hg).1)
            obtain ⟨_, j0, j1, j2, j3, j4⟩ := EV.out.below hB2 EV.out.1
            have hO2 : w2.ownsRow w.heap.size 31 5 v' p2.length (evCells p2) := by rw [← P2.out, List.length_append, evCells_append]; exact hown'
            have hsz2 := hB2.size
            clear hown' hgrow g0 g1 g2 g3 g4 HO HB hHO hHB
            obtain ⟨A2, c2, hv2⟩ := ownRow_shapeJ hO2
            subst hv2
            go_wp2_with (at_builtin; refine wpList_append_own _ rfl (.tmp 42) (.tmp 47) 22 rfl w.heap.size 31 i0 (.agg #[.int .i64 0, .string ⟨#[]⟩, .string ⟨#[]⟩, .slice none 0 0, .string ⟨#[]⟩]) 5 80 Try.underlying22 hi0 hz0 hz1 hz2 rfl (by decide) _ _ _ rfl (hO2.alloc _) ⟨w2.heap.size, 0, none⟩ 1 1 [.int .i64 e.k, .string e.sp, .string e.lo, .slice e.A e.n e.c, .string e.tx] rfl rfl (evCell_new _ _ _ _ _ _ _) ?k2 ?k3 ?k4 ?k5 ?_)
            case k2 => (first | exact evVals_one _ _ _ _ _ _ _ | exact ⟨rfl, rfl, rfl, rfl⟩)
            case k3 => unfold maxLen; omega
            case k4 => omega
            case k5 => (first | omega | (simp; omega))
            intro v'' w3 hown' hgrow _
            have HB3 := Lib.hid ((hB2.alloc hsz2 _).grown hgrow (by simp; omega) (fun g hg => (hO2.lt g hg).1))
            go_wp2
            go_roundw
            case rel =>
              refine ⟨k + 1, p2 ++ [e], ⟨#[]⟩, by omega, by go_num, rfl, F.out, ?_, HB3⟩
              show World.ownsRow _ _ _ _ _ _ _
              rw [List.length_append, evCells_append]
              exact hown'
            case measure => simp [intOf]; omega
      · obtain rfl : k = n := by omega
        have b1 : ¬ (k : Int) < (k : Int) := by omega
        have hall : allJ l = flushJ (p, t) := by unfold allJ; rw [LN.out, RU.out]
        have hst : stJ l (k + 1) = (allJ l, ⟨#[]⟩) := by have := stJ_end l; rw [LN.out] at this; exact this
        by_cases ht : t = ⟨#[]⟩
        · have F := Lib.hid (show stJ l (k + 1) = (p, ⟨#[]⟩) by rw [hst, hall]; unfold flushJ; simp only [ht, if_true])
          subst ht
          clear hall hst
          go_wp2
          go_roundw
          case rel => exact ⟨k + 1, p, ⟨#[]⟩, by omega, by go_num, rfl, F.out, HO, HB⟩
          case measure => simp [intOf] <;> omega
        · have q2 := toE_no ht
          have F := Lib.hid (show stJ l (k + 1) = (p ++ [textEv t], ⟨#[]⟩) by rw [hst, hall]; unfold flushJ; simp only [if_neg ht])
          have hHO := HO.out
          have hHB := HB.out
          have hsz := hHB.size
          clear hall hst ht
          go_wp2_with (at_builtin; refine wpList_append_own _ rfl (.tmp 33) (.tmp 36) 22 rfl w.heap.size 31 i0 (.agg #[.int .i64 0, .string ⟨#[]⟩, .string ⟨#[]⟩, .slice none 0 0, .string ⟨#[]⟩]) 5 80 Try.underlying22 hi0 hz0 hz1 hz2 rfl (by decide) _ _ _ rfl (hHO.alloc _) ⟨wr.heap.size, 0, none⟩ 1 1 [.int .i64 3, .string ⟨#[]⟩, .string ⟨#[]⟩, .slice none 0 0, .string t] rfl rfl (evCell_new _ _ _ _ _ _ _) ?k2 ?k3 ?k4 ?k5 ?_)
          case k2 => (first | exact evVals_one _ _ _ _ _ _ _ | exact ⟨rfl, rfl, rfl, rfl⟩)
          case k3 => unfold maxLen; omega
          case k4 => omega
          case k5 => (first | omega | (simp; omega))
          intro v' w2 hown' hgrow _
          have HB2 := Lib.hid ((hHB.alloc hsz _).grown hgrow (by simp; omega) (fun g hg => (hHO.lt g hg).1))
          go_wp2
          go_roundw
          case rel =>
            refine ⟨k + 1, p ++ [textEv t], ⟨#[]⟩, by omega, by go_num, rfl, F.out, ?_, HB2⟩
            show World.ownsRow _ _ _ _ _ _ _
            rw [List.length_append, evCells_append]
            exact hown'
          case measure => simp [intOf] <;> omega
    · obtain rfl : k = n + 1 := by omega
      have hst : stJ l (n + 1) = (allJ l, ⟨#[]⟩) := by have := stJ_end l; rw [LN.out] at this; exact this
      have hp : p = allJ l := by have := HS.out; rw [hst] at this; exact (Prod.mk.inj this).1.symm
      subst hp
      obtain ⟨A2, c2, hv2⟩ := ownRow_shapeJ HO.out
      subst hv2
      obtain ⟨h1, h2, _⟩ := ownRow_capJ HO.out
      have OK2 := Lib.hid (show ∀ e ∈ allJ l, EvOk wr e from fun e he => (flushJ_ok (runJ_ok OKS.out l.length) e he).below HB.out)
      clear hst
      go_wp2
      go_ret
      exact ⟨A2, c2, rfl, EvsAt.of_own HO.out OK2.out, h1, h2, HB.out⟩
end Go.Proofs.Ytijofagmddhmgaa
