/- The contracts of query.Find and of the reference's Find: which elements steps find. Conditions: at most 2^20 events. -/
import Derived.Test.YtlifdmehejehjaaDoorQMatch
import Derived.Test.YtlifdmehejehjaaDoorQRMatch
import Derived.Test.YtlifdmehejehjaaDoorDiffRPath
import Derived.Test.YtlifdmehejehjaaDoorDiffFind
import Derived.ArgAppend
namespace Go.Proofs.YtlifdmehejehjaaDoor
open Go.RowKit Go.Proofs.YtlifdmehejehjaaDoor.QPlain
set_option linter.unusedVariables false
set_option linter.unusedSimpArgs false
def hitQ (l : List Ev) (st : List StN) (k : Nat) : Bool := match l[k]? with | some e => decide (e.k = 1) && matchN st (pathP (l.take (k + 1))) | none => false
def qfindK (l : List Ev) (st : List StN) (k : Nat) : List Int := ((List.range k).filter (hitQ l st)).map Int.ofNat
theorem qfindK_len (l : List Ev) (st : List StN) (k : Nat) : (qfindK l st k).length ≤ k := by
  unfold qfindK
  rw [List.length_map]
  have := List.length_filter_le (hitQ l st) (List.range k)
  rwa [List.length_range] at this
theorem qfindK_succ (l : List Ev) (st : List StN) (k : Nat) : qfindK l st (k + 1) = qfindK l st k ++ if hitQ l st k then [(k : Int)] else [] := by
  unfold qfindK
  rw [List.range_succ, List.filter_append, List.map_append]
  congr 1
  rw [List.filter_cons]
  split <;> rfl
theorem hitQ_no1 {l : List Ev} {st : List StN} {k : Nat} {e : Ev} (hx : l[k]? = some e) (h : ¬ e.k = 1) : hitQ l st k = false := by unfold hitQ; rw [hx]; simp [h]
theorem hitQ_at {l : List Ev} {st : List StN} {k : Nat} {e : Ev} (hx : l[k]? = some e) (h : e.k = 1) : hitQ l st k = matchN st (pathP (l.take (k + 1))) := by unfold hitQ; rw [hx]; simp [h]
theorem qfindK_yes {l : List Ev} {st : List StN} {k : Nat} (h : hitQ l st k = true) : qfindK l st (k + 1) = qfindK l st k ++ [(k : Int)] := by rw [qfindK_succ, if_pos h]
theorem qfindK_no {l : List Ev} {st : List StN} {k : Nat} (h : hitQ l st k = false) : qfindK l st (k + 1) = qfindK l st k := by rw [qfindK_succ, if_neg (by simp [h]), List.append_nil]
theorem numCells_snoc (l : List Int) (x : Int) : numCells (l ++ [x]) = numCells l ++ [.int .i64 x] := by simp [numCells]
def TellNums (xs : List Int) (w : World) (e : Ending) (w' : World) : Prop := ∃ A c, e = .returned (.slice A xs.length c) ∧ xs.length ≤ c ∧ c ≤ 9223372036854775807 ∧ w'.ownsRow w.heap.size 3 1 (.slice A xs.length c) xs.length (numCells xs) ∧ Below w.heap.size w w'
theorem strs_cells {w : World} {A : Option Addr} {n : Nat} {xs : List ByteArray} (h : StrsAt w A n xs) : ∀ b, A = some b → ∀ j u, (strCells xs)[j]? = some u → w.cell? (b.add j) = some u := by
  intro b hb j u hj
  unfold strCells at hj
  rw [List.getElem?_map] at hj
  cases hx : xs[j]? with
  | none => rw [hx] at hj; cases hj
  | some s =>
    rw [hx] at hj
    cases hj
    obtain ⟨a, s', h1, h2, _, h4⟩ := h.2 j (by have := (List.getElem?_eq_some_iff.1 hx).1; rw [h.1] at this; exact this)
    rw [hb] at h1
    cases h1
    rw [hx] at h2
    cases h2
    exact h4
theorem strs_none {w : World} {A : Option Addr} {n : Nat} {xs : List ByteArray} (h : StrsAt w A n xs) (hA : A = none) : n = 0 := by
  rcases Nat.eq_zero_or_pos n with h0 | h0
  · exact h0
  · obtain ⟨a, _, h1, _⟩ := h.2 0 h0; rw [hA] at h1; cases h1
theorem str_news (x : Value) (hx : x.oneCell' = true) : ∀ u ∈ [x], u.oneCell' = true := by intro u hu; simp at hu; subst hu; exact hx
theorem own_ts {w : World} {base : Nat} {e : TypeId} {A : Option Addr} {c n : Nat} {xs ys : List ByteArray} (he : ys = xs) (hn : n = xs.length) (h : w.ownsRow base e 1 (.slice A n c) n (strCells ys)) : TsAt w A n xs := by subst he hn; exact TsAt.of_own h
set_option maxRecDepth 100000 in
set_option maxHeartbeats 4000000 in
theorem qfind_any (A : Option Addr) (n c : Nat) (l : List Ev) (A' : Option Addr) (m cp' : Nat) (st : List StN) (w : World) (hl : EvsAt w A n l) (hs : StsAt w A' m st) (hn : n ≤ 1048576) (hc : n ≤ c) (hc2 : c ≤ 9223372036854775807) (hm : m ≤ 9223372036854775807) :
    Calls Tryd.prog 13 #[.slice A n c, .slice A' m cp'] w (TellNums (qfindK l st n) w) := by
  obtain ⟨i0, hi0, hz0, hz1, hz2⟩ := info_parts Tryd.infoIntD
  obtain ⟨j0, hj0, hy0, hy1, hy2⟩ := info_parts Tryd.infoStr
  have L := Lib.hid hl
  have S := Lib.hid hs
  clear hl hs
  go_enter Tryd.func13, Tryd.ntmps13
  go_wp2
  go_loopw [5, 12] (fun o i wr => ∃ (k : Nat) (v : Value), v = o ∧ k ≤ n ∧ i = .int .i64 k ∧ Hid (wr.ownsRow w.heap.size 3 1 v (qfindK l st k).length (numCells (qfindK l st k))) ∧ Hid (Below w.heap.size w wr)) (fun _ i _ => n - (intOf i).toNat)
  case atStart => exact ⟨0, _, rfl, by omega, rfl, World.ownsRow_nil _ _ _ _, Below.refl _ _⟩
  case round =>
    obtain ⟨k, v, rfl, hk', rfl, HO, HB⟩ := hrel
    by_cases hlt : k < n
    · obtain ⟨a, e, hA, hx, he, hok⟩ := L.out.2 k hlt
      subst hA
      have b0 : (0 : Int) ≤ (k : Int) := by omega
      have b1 : (k : Int) < (n : Int) := by omega
      have hfl := qfindK_len l st k
      obtain ⟨_, g0, g1, g2, g3, g4⟩ := he.below HB.out he.1
      obtain ⟨W, hW, hB0, c0, c1, c2, c3, c4⟩ := evBox wr e 40
      have HO1 := Lib.hid (ownRow_below HO.out hB0)
      have HB1 := Lib.hid (HB.out.trans (hB0.mono HB.out.size))
      have X := Lib.hid hx
      have HLT : wr.heap.size < W.heap.size := by rw [← hW]; simp
      by_cases h1 : e.k = 1
      · have q1 : (e.k != 1) = false := by simpa using h1
        have hp := hitQ_at (st := st) hx h1
        have hpl := pathP_len l k
        have hst : pathP (l.take (k + 1)) = pathP (l.take k) ++ [e.lo] := by rw [pathP_succ l k e hx]; unfold stepP; rw [if_pos h1]
        rw [hst] at hp
        have HH := Lib.hid hp
        have C2 := Lib.hid c2
        have PA := path_any (some a) n c l k W (L.out.below HB1.out) (by omega) hc hc2 (by omega)
        generalize pathP (l.take k) = p at *
        have PA := Lib.hid PA
        clear hx he hok HO hst hp h1 hB0
        go_wp2_with fail
        refine PA.out.mono ?_
        rintro x w2 ⟨A6, c6, rfl, hS6, hc6, hc6', hB6⟩
        have c2w : w2.cell? ⟨wr.heap.size, 2, none⟩ = some (.string e.lo) := (hB6.cell (p := ⟨wr.heap.size, 2, none⟩) HLT).trans C2.out
        have HO2 := Lib.hid (ownRow_below HO1.out hB6)
        have HB2 := Lib.hid (HB1.out.trans (hB6.mono HB1.out.size))
        have S6 := Lib.hid hS6
        have hz6 := hB6.size
        clear c0 c1 c2 c3 c4 g0 g1 g2 g3 g4 hB6 hS6 PA hW
        have hnn := fun h : A6 = none => strs_none S6.out h
        have HNN : Hid (A6 = none → p.length = 0 ∧ c6 = 0) := fun h => ⟨hnn h, by have := hnn h; omega⟩
        have HLS : Hid ((strCells p).length = p.length * 1) := by show _ = _; simp [strCells]
        have OLD := Lib.hid (strs_cells (S6.out.below ((Below.refl _ w2).alloc (Nat.le_refl _) (.cells #[.string e.lo] 9))))
        clear hnn
        go_wp2_with (at_builtin; refine wpList_append_grows _ rfl (.tmp 27) (.tmp 31) 23 rfl 9 j0 (.string ⟨#[]⟩) 1 16 Tryd.underlying23 hj0 hy0 hy1 hy2 rfl (by decide) A6 p.length c6 (strCells p) rfl HNN.out HLS.out OLD.out ⟨w2.heap.size, 0, none⟩ 1 1 [.string e.lo] rfl rfl (strCell_new _ _ _) ?c2 ?c6 ?c3 ?c4 ?_)
        case c2 => exact str_news _ rfl
        case c6 => omega
        case c3 => unfold maxLen; omega
        case c4 => omega
        intro v' w3 hown' hgrow'
        obtain ⟨A7, c7, rfl⟩ := ownRow_shape hown'
        have hts : TsAt w3 A7 (p.length + 1) (p ++ [e.lo]) := own_ts (ys := p ++ [e.lo]) rfl (by simp) (by simpa [strCells] using hown')
        have hB3 := ((Below.refl w2.heap.size w2).alloc (Nat.le_refl _) (.cells #[.string e.lo] 9)).grown hgrow' (by simp) (fun g hg => by cases hg)
        have HO3 := Lib.hid (ownRow_below HO2.out hB3)
        have HB3 := Lib.hid (HB2.out.trans (hB3.mono HB2.out.size))
        have M := qmatch_any A' m cp' st A7 (p.length + 1) c7 (p ++ [e.lo]) w3 hm (by omega) (S.out.below HB3.out) hts
        rw [← HH.out] at M
        clear hown' hgrow' hts hB3 c2w S6
        cases hh : hitQ l st k with
        | true =>
          rw [hh] at M
          have M := Lib.hid M
          have F := Lib.hid (qfindK_yes hh)
          clear hh HH
          go_wp2_with fail
          refine M.out.mono ?_
          rintro x w4 ⟨rfl, hB4⟩
          have HO4 := ownRow_below HO3.out hB4
          have HB4 := HB3.out.trans (hB4.mono HB3.out.size)
          have hz4 := HB4.size
          clear hB4 M
          go_wp2_with (at_builtin; refine wpList_append_own_at _ rfl (.tmp 34) (.tmp 36) 32 rfl w.heap.size 3 i0 (.int .i64 0) 1 8 Tryd.underlying32 hi0 hz0 hz1 hz2 rfl (by decide) _ _ _ rfl (HO4.alloc _) ⟨w4.heap.size, 0, none⟩ 1 1 [.int .i64 k] rfl rfl (numCell_new _ _ _) ?k2 ?k3 ?k4 ?k5 ?_)
          case k2 => exact str_news _ rfl
          case k3 => unfold maxLen; omega
          case k4 => omega
          case k5 => simp; omega
          intro o' w5 hown' hgrow _ hblk
          have HB5 := Lib.hid ((HB4.alloc hz4 _).grown hgrow (by simp; omega) (fun g hg => (HO4.lt g hg).1))
          rw [show numCells (qfindK l st k) ++ [.int .i64 (k : Int)] = numCells (qfindK l st (k + 1)) by rw [F.out, numCells_snoc], show (qfindK l st k).length + 1 = (qfindK l st (k + 1)).length by rw [F.out, List.length_append]; rfl] at hown'
          have HO5 := Lib.hid hown'
          clear hown' hgrow hblk HO4 HB4
          go_wp2
          go_roundw
          case rel => exact ⟨k + 1, _, rfl, by omega, by go_num, HO5, HB5⟩
          case measure => simp [intOf]; omega
        | false =>
          rw [hh] at M
          have M := Lib.hid M
          have F := Lib.hid (qfindK_no hh)
          clear hh HH
          go_wp2_with fail
          refine M.out.mono ?_
          rintro x w4 ⟨rfl, hB4⟩
          have HO4 := Lib.hid (ownRow_below HO3.out hB4)
          have HB4 := Lib.hid (HB3.out.trans (hB4.mono HB3.out.size))
          clear hB4 M
          go_wp2
          go_roundw
          case rel => exact ⟨k + 1, _, rfl, by omega, by go_num, by rw [F.out]; exact HO4, HB4⟩
          case measure => simp [intOf]; omega
      · have q1 : (e.k != 1) = true := by simpa using h1
        have F := Lib.hid (qfindK_no (hitQ_no1 (st := st) hx h1))
        clear hx he hok HO h1 hB0
        go_wp2
        go_roundw
        case rel => exact ⟨k + 1, _, rfl, by omega, by go_num, by rw [F.out]; exact HO1, HB1⟩
        case measure => simp [intOf]; omega
    · obtain rfl : k = n := by omega
      obtain ⟨A2, c2, rfl⟩ := ownRow_shape HO.out
      obtain ⟨h1, h2, _⟩ := ownRow_cap HO.out
      go_wp2
      go_ret
      exact ⟨A2, c2, rfl, h1, h2, HO.out, HB.out⟩
set_option maxRecDepth 100000 in
set_option maxHeartbeats 4000000 in
theorem rqfind_any (A : Option Addr) (n c : Nat) (l : List Ev) (A' : Option Addr) (m cp' : Nat) (st : List StN) (w : World) (hl : EvsAt w A n l) (hs : StsAt w A' m st) (hn : n ≤ 1048576) (hm : m ≤ 9223372036854775807) :
    Calls Tryd.prog 19 #[.slice A n c, .slice A' m cp'] w (TellNums (qfindK l st n) w) := by
  obtain ⟨i0, hi0, hz0, hz1, hz2⟩ := info_parts Tryd.infoIntD
  have L := Lib.hid hl
  have S := Lib.hid hs
  clear hl hs
  go_enter Tryd.func19, Tryd.ntmps19
  go_wp2
  go_loopw [5, 6] (fun o i wr => ∃ (k : Nat) (v : Value), v = o ∧ k ≤ n ∧ i = .int .i64 k ∧ Hid (wr.ownsRow w.heap.size 3 1 v (qfindK l st k).length (numCells (qfindK l st k))) ∧ Hid (Below w.heap.size w wr)) (fun _ i _ => n - (intOf i).toNat)
  case atStart => exact ⟨0, _, rfl, by omega, rfl, World.ownsRow_nil _ _ _ _, Below.refl _ _⟩
  case round =>
    obtain ⟨k, v, rfl, hk', rfl, HO, HB⟩ := hrel
    by_cases hlt : k < n
    · obtain ⟨a, e, hA, hx, he, hok⟩ := L.out.2 k hlt
      subst hA
      have b0 : (0 : Int) ≤ (k : Int) := by omega
      have b1 : (k : Int) < (n : Int) := by omega
      have hfl := qfindK_len l st k
      obtain ⟨_, g0, g1, g2, g3, g4⟩ := he.below HB.out he.1
      by_cases h1 : e.k = 1
      · have q1 : (e.k == 1) = true := by simpa using h1
        have hp := hitQ_at (st := st) hx h1
        have hpl := pathP_len l (k + 1)
        have PA := rpath_any (some a) n c l (k + 1) wr (L.out.below HB.out) (by omega) (by omega)
        rw [show ((k + 1 : Nat) : Int) = (k : Int) + 1 from by omega] at PA
        generalize pathP (l.take (k + 1)) = p at *
        have HH := Lib.hid hp
        have PA := Lib.hid PA
        clear hx he hok hp h1
        go_wp2_with fail
        refine PA.out.mono ?_
        rintro x w2 ⟨A6, c6, rfl, hS6, hB6⟩
        have HO2 := Lib.hid (ownRow_below HO.out hB6)
        have HB2 := Lib.hid (HB.out.trans (hB6.mono HB.out.size))
        have M := rqmatch_any A' m cp' st A6 p.length c6 p w2 hm (by omega) (S.out.below HB2.out) hS6
        rw [← HH.out] at M
        clear g0 g1 g2 g3 g4 hB6 hS6 PA
        cases hh : hitQ l st k with
        | true =>
          rw [hh] at M
          have M := Lib.hid M
          have F := Lib.hid (qfindK_yes hh)
          clear hh HH
          go_wp2_with fail
          refine M.out.mono ?_
          rintro x w4 ⟨rfl, hB4⟩
          have HO4 := ownRow_below HO2.out hB4
          have HB4 := HB2.out.trans (hB4.mono HB2.out.size)
          have hz4 := HB4.size
          clear hB4 M
          go_wp2_with (at_builtin; refine wpList_append_own_at _ rfl (.tmp 27) (.tmp 29) 32 rfl w.heap.size 3 i0 (.int .i64 0) 1 8 Tryd.underlying32 hi0 hz0 hz1 hz2 rfl (by decide) _ _ _ rfl (HO4.alloc _) ⟨w4.heap.size, 0, none⟩ 1 1 [.int .i64 k] rfl rfl (numCell_new _ _ _) ?k2 ?k3 ?k4 ?k5 ?_)
          case k2 => exact str_news _ rfl
          case k3 => unfold maxLen; omega
          case k4 => omega
          case k5 => simp; omega
          intro o' w5 hown' hgrow _ hblk
          have HB5 := Lib.hid ((HB4.alloc hz4 _).grown hgrow (by simp; omega) (fun g hg => (HO4.lt g hg).1))
          rw [show numCells (qfindK l st k) ++ [.int .i64 (k : Int)] = numCells (qfindK l st (k + 1)) by rw [F.out, numCells_snoc], show (qfindK l st k).length + 1 = (qfindK l st (k + 1)).length by rw [F.out, List.length_append]; rfl] at hown'
          have HO5 := Lib.hid hown'
          clear hown' hgrow hblk HO4 HB4
          go_wp2
          go_roundw
          case rel => exact ⟨k + 1, _, rfl, by omega, by go_num, HO5, HB5⟩
          case measure => simp [intOf]; omega
        | false =>
          rw [hh] at M
          have M := Lib.hid M
          have F := Lib.hid (qfindK_no hh)
          clear hh HH
          go_wp2_with fail
          refine M.out.mono ?_
          rintro x w4 ⟨rfl, hB4⟩
          have HO4 := Lib.hid (ownRow_below HO2.out hB4)
          have HB4 := Lib.hid (HB2.out.trans (hB4.mono HB2.out.size))
          clear hB4 M
          go_wp2
          go_roundw
          case rel => exact ⟨k + 1, _, rfl, by omega, by go_num, by rw [F.out]; exact HO4, HB4⟩
          case measure => simp [intOf]; omega
      · have q1 : (e.k == 1) = false := by simpa using h1
        have F := Lib.hid (qfindK_no (hitQ_no1 (st := st) hx h1))
        clear hx he hok h1
        go_wp2
        go_roundw
        case rel => exact ⟨k + 1, _, rfl, by omega, by go_num, by rw [F.out]; exact HO, HB⟩
        case measure => simp [intOf]; omega
    · obtain rfl : k = n := by omega
      obtain ⟨A2, c2, rfl⟩ := ownRow_shape HO.out
      obtain ⟨h1, h2, _⟩ := ownRow_cap HO.out
      go_wp2
      go_ret
      exact ⟨A2, c2, rfl, h1, h2, HO.out, HB.out⟩
end Go.Proofs.YtlifdmehejehjaaDoor
