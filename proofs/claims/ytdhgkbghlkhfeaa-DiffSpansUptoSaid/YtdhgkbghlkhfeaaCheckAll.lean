/- The contract of narthexref40.Check: where it finds nothing wrong, the events' begins and ends are balanced. Conditions: events that are not great. -/
import Derived.Test.YtdhgkbghlkhfeaaCheckOne
import Derived.Test.YtdhgkbghlkhfeaaDiffBal
namespace Go.Proofs.Ytdhgkbghlkhfeaa
open Go.RowKit Go.Proofs.Ytdhgkbghlkhfeaa.UtfPlain Go.Proofs.Ytdhgkbghlkhfeaa.NamePlain Go.Proofs.Ytdhgkbghlkhfeaa.CharsPlain
def TellCheck (l : List Ev) (w : World) (e : Ending) (w' : World) : Prop :=
  ∃ i v : Int, e = .returned (.tuple #[.int .i64 i, .int .i64 v]) ∧ (v = 0 → stackO l = some []) ∧ Below w.heap.size w w'
set_option maxRecDepth 100000 in
set_option maxHeartbeats 8000000 in
theorem check40_any (A : Option Addr) (n c : Nat) (l : List Ev) (w : World) (hl : EvsAt w A n l) (hs : evSum l ≤ 1048576) (hn : n ≤ 1048576) :
    Calls Try.prog 8 #[.slice A n c] w (TellCheck l w) := by
  obtain ⟨i0, hi0, hz0, hz1, hz2⟩ := info_parts Try.infoName
  have L := Lib.hid hl
  clear hl
  go_enter Try.func8, Try.ntmps8
  go_wp2_with fail
  go_loopw [4, 5, 6] (fun v b i wr => ∃ (k : Nat) (st : List (ByteArray × ByteArray)) (r : Bool), k ≤ n ∧ i = .int .i64 k ∧ b = .bool r ∧ st.length ≤ k ∧ Hid (stackO (l.take k) = some st) ∧ Hid (wr.ownsRow w.heap.size 28 2 v st.length (nmCells st)) ∧ Hid (Below w.heap.size w wr)) (fun _ _ i _ => n - (intOf i).toNat)
  case atStart => exact ⟨0, [], false, by omega, rfl, rfl, by simp, rfl, World.ownsRow_nil _ _ _ _, Below.refl _ _⟩
  case round =>
    obtain ⟨k, st, r, hk, rfl, rfl, hst, HS, HO, HB⟩ := hrel
    obtain ⟨A2, c2, rfl⟩ := ownRow_shape HO.out
    obtain ⟨hc1, hc2, _⟩ := ownRow_cap HO.out
    by_cases hlt : k < n
    · obtain ⟨a, e, hA, hx, he, hok⟩ := (L.out.below HB.out).2 k hlt
      subst hA
      have b0 : (0 : Int) ≤ (k : Int) := by omega
      have b1 : (k : Int) < (n : Int) := by omega
      have hall : e.all ≤ 1048576 := Nat.le_trans (evSum_mem hx) hs
      have T := Lib.hid (stackO_succ l k e hx)
      have EV := Lib.hid he
      have ON := Lib.hid (conE_any e wr hok hall)
      obtain ⟨_, g0, g1, g2, g3, g4⟩ := he
      clear hx hok
      go_wp2_with fail
      refine ON.out.mono ?_
      rintro _ w1 ⟨v, rfl, hB1⟩
      have HB2 := Lib.hid (HB.out.trans (hB1.mono HB.out.size))
      have HO2 := Lib.hid (ownRow_below HO.out hB1)
      obtain ⟨hXb, j0, j1, j2, j3, j4⟩ := EV.out.below hB1 EV.out.1
      clear g0 g1 g2 g3 g4 hB1 ON HB HO
      by_cases hv : v = 0
      · subst hv
        by_cases h1 : e.k = 1
        · have q1 : (e.k == 1) = true := by simpa using h1
          have T1 := Lib.hid (T.out.trans (by rw [HS.out]; exact if_pos h1 : _ = some (st ++ [nameP e])))
          clear h1
          have bad : st = [] ∧ r = true ∨ ¬ (st = [] ∧ r = true) := Classical.em _
          rcases bad with ⟨rfl, rfl⟩ | hb
          · go_wp2
            go_ret2
            exact ⟨_, _, rfl, (fun h => by cases h), HB2.out⟩
          · have hsz := HB2.out.size
            have t2 : ((st.length : Int) == 0) = false ∨ (((st.length : Int) == 0) = true ∧ r = false) := by
              by_cases h0 : st = []
              · subst h0; right; exact ⟨rfl, by cases r; rfl; exact absurd ⟨rfl, rfl⟩ hb⟩
              · left; have : 0 < st.length := List.length_pos_iff.2 h0; simpa using h0
            clear hb
            rcases t2 with t2 | ⟨t2, rfl⟩
            all_goals
              go_wp2_with (at_builtin; refine wpList_append_own_at _ rfl (.tmp 39) (.tmp 45) 51 rfl w.heap.size 28 i0 (.agg #[.string ⟨#[]⟩, .string ⟨#[]⟩]) 2 32 Try.underlying51 hi0 hz0 hz1 hz2 rfl (by decide) _ _ _ rfl (HO2.out.alloc _) ⟨w1.heap.size, 0, none⟩ 1 1 [.string e.sp, .string e.lo] rfl rfl (twoCells _ _ _ _) (twoOne _ _) ?k3 ?k4 ?k5 ?_)
              case k3 => unfold maxLen; omega
              case k4 => omega
              case k5 => simp; omega
              intro v' w2 hown' hgrow _ hblk
              have HO3 := Lib.hid hown'
              have HB3 := Lib.hid ((HB2.out.alloc hsz _).grown hgrow (by simp; omega) (fun g hg => (HO2.out.lt g hg).1))
              clear hown' hgrow hblk
              go_wp2
              go_roundw
              case rel => exact ⟨k + 1, st ++ [nameP e], true, by omega, by go_num, rfl, by simp; omega, T1.out, by show World.ownsRow _ _ _ _ _ _ _; rw [nmCells_snoc, List.length_append]; exact HO3.out, HB3⟩
              case measure => simp [intOf]; omega
        · have q1 : (e.k == 1) = false := by simpa using h1
          by_cases h2 : e.k = 2
          · have q2 : (e.k == 2) = true := by simpa using h2
            rcases List.eq_nil_or_concat st with rfl | ⟨q, x, hq⟩
            · go_wp2_with fail
              go_quiet (fail)
              go_wp2
              go_ret2
              exact ⟨_, _, rfl, (fun h => by cases h), (HB2.out.trans (below_drewN _ _ _))⟩
            · rw [List.concat_eq_append] at hq
              have hlen : st.length = q.length + 1 := by rw [hq]; simp
              have hx2 : st[q.length]? = some x := by rw [hq]; simp
              obtain ⟨A3, p, hA3, hp3, hb3, f1, f2⟩ := (NamesAt.of_own HO2.out).2 q.length (by rw [hlen]; omega)
              rw [hx2] at hp3
              cases hp3
              subst hA3
              obtain ⟨g, hg⟩ : ∃ g, (some A3 : Option Addr) = some ⟨g, 0, none⟩ := by
                rcases HO2.out.2 with ⟨h, h'⟩ | ⟨g, cap, cur, h, _⟩
                · omega
                · cases h; exact ⟨g, rfl⟩
              cases hg
              have HP := Lib.hid (ownsRow_pop (size := 2) (n := q.length) (xs := nmCells q) (last := [.string x.1, .string x.2]) (by simp [nmCells_len]) (by rw [← nmCells_snoc q x, ← hq, ← hlen]; exact HO2.out))
              have HS2 := Lib.hid (HS.out.trans (by rw [hq] : _ = some (q ++ [x])))
              generalize hm : q.length = m at *
              generalize hsl : st.length = sl at *
              subst hlen
              have e0 : (⟨g, 0, none⟩ : Addr).add (m * 2) = ⟨g, m * 2, none⟩ := by
                unfold Addr.add; by_cases h0 : m * 2 = 0 <;> simp [h0]
              rw [e0] at f1 f2
              dsimp only at f2
              clear e0
              have b2 : (0 : Int) ≤ (m : Int) := by omega
              have b3 : (m : Int) < ((m + 1 : Nat) : Int) := by omega
              have t2 : ((m : Int) + 1 == 0) = false := by simp; omega
              have b4 : (m : Int) < (m : Int) + 1 := by omega
              have b5 : (m : Int) ≤ 1048576 := by omega
              have b6 : ((m + 1 : Nat) : Int) - 1 = (m : Int) := by omega
              have b7 : m + 1 ≤ c2 := by omega
              have HM := Lib.hid hm
              by_cases p1 : x.1.toList = e.sp.toList
              · by_cases p2 : x.2.toList = e.lo.toList
                · have hxe : x = nameP e := by
                    unfold nameP
                    rw [← toL_inj.1 p1, ← toL_inj.1 p2]
                  have T1 := Lib.hid (T.out.trans (by rw [HS2.out]; unfold stepO; dsimp only; rw [if_neg h1, if_pos h2, if_pos (by rw [List.getLast?_concat, hxe]), List.dropLast_concat] : _ = some q))
                  clear hq hx2 hsl hm HS h1 h2 b6 hxe
                  go_wp2_with fail
                  go_quiet (fail)
                  have HB3 := Lib.hid (HB2.out.trans (below_drewN _ w1 nq))
                  have HP3 := Lib.hid (ownRow_below HP.out (below_drewN _ w1 nq))
                  go_wp2
                  go_roundw
                  case rel => exact ⟨k + 1, q, r, by omega, by go_num, rfl, by rw [HM.out]; omega, T1.out, by show World.ownsRow _ _ _ _ _ _ _; rw [HM.out]; exact HP3.out, HB3⟩
                  case measure => simp [intOf]; omega
                · clear hq hx2 hsl hm HS h1 h2 b6
                  go_wp2_with fail
                  go_quiet (fail)
                  go_wp2
                  go_ret2
                  exact ⟨_, _, rfl, (fun h => by cases h), (HB2.out.trans (below_drewN _ _ _))⟩
              · clear hq hx2 hsl hm HS h1 h2 b6
                go_wp2_with fail
                go_quiet (fail)
                go_wp2
                go_ret2
                exact ⟨_, _, rfl, (fun h => by cases h), (HB2.out.trans (below_drewN _ _ _))⟩
          · have q2 : (e.k == 2) = false := by simpa using h2
            have T1 := Lib.hid (T.out.trans (by rw [HS.out]; unfold stepO; dsimp only; rw [if_neg h1, if_neg h2] : _ = some st))
            by_cases h3 : e.k = 3
            · have q3 : (e.k == 3) = true := by simpa using h3
              clear h1 h2 h3
              by_cases h0 : st.length = 0
              · have t2 : ((st.length : Int) == 0) = true := by simp [h0]
                clear h0
                go_wp2
                go_ret2
                exact ⟨_, _, rfl, (fun h => by cases h), HB2.out⟩
              · have t2 : ((st.length : Int) == 0) = false := by rw [beq_eq_false_iff_ne]; omega
                clear h0
                by_cases hk0 : k = 0
                · have t3 : ¬ 0 < k := by omega
                  clear hk0
                  go_wp2
                  go_roundw
                  case rel => exact ⟨k + 1, st, r, by omega, by go_num, rfl, by omega, T1.out, HO2.out, HB2⟩
                  case measure => simp [intOf]; omega
                · obtain ⟨j, rfl⟩ : ∃ j, k = j + 1 := ⟨k - 1, by omega⟩
                  have t3 : 0 < j + 1 := by omega
                  obtain ⟨a', e', hA', _, he', _⟩ := (L.out.below HB2.out).2 j (by omega)
                  cases hA'
                  obtain ⟨_, z0, _⟩ := he'
                  have z1 : (0 : Int) ≤ (j : Int) := by omega
                  have z2 : (j : Int) < (n : Int) := by omega
                  clear hk0
                  by_cases hz : e'.k = 3
                  · have q4 : (e'.k == 3) = true := by simpa using hz
                    clear hz
                    go_wp2
                    go_ret2
                    exact ⟨_, _, rfl, (fun h => by cases h), HB2.out⟩
                  · have q4 : (e'.k == 3) = false := by simpa using hz
                    clear hz
                    go_wp2
                    go_roundw
                    case rel => exact ⟨j + 1 + 1, st, r, by omega, by go_num, rfl, by omega, T1.out, HO2.out, HB2⟩
                    case measure => simp [intOf]; omega
            · have q3 : (e.k == 3) = false := by simpa using h3
              clear h1 h2 h3
              go_wp2
              go_roundw
              case rel => exact ⟨k + 1, st, r, by omega, by go_num, rfl, by omega, T1.out, HO2.out, HB2⟩
              case measure => simp [intOf]; omega
      · have t1 : (v != 0) = true := by simpa using hv
        go_wp2
        go_ret2
        exact ⟨_, _, rfl, fun h => absurd h hv, HB2.out⟩
    · obtain rfl : k = n := by omega
      have hT : l.take k = l := by rw [← L.out.1, List.take_length]
      rw [hT] at HS
      by_cases h0 : st = []
      · subst h0
        cases r with
        | true =>
          go_wp2
          go_ret2
          exact ⟨_, _, rfl, (fun _ => HS.out), HB.out⟩
        | false =>
          go_wp2
          go_ret2
          exact ⟨_, _, rfl, (fun h => by cases h), HB.out⟩
      · have hp : 0 < st.length := List.length_pos_iff.2 h0
        have t2 : (0 : Int) < (st.length : Int) := by omega
        clear h0
        go_wp2
        go_ret2
        exact ⟨_, _, rfl, (fun h => by cases h), HB.out⟩
end Go.Proofs.Ytdhgkbghlkhfeaa
