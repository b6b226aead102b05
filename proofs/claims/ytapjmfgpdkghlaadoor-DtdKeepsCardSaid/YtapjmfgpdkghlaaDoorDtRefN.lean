/- The reference's answers for layer 17: Notation, Notations, Elements. Conditions: at most 2^20 declarations. -/
import Derived.Test.YtapjmfgpdkghlaaDoorDtRef
namespace Go.Proofs.YtapjmfgpdkghlaaDoor
open Go.RowKit Go.Maps
set_option linter.unusedVariables false
set_option linter.unusedSimpArgs false
theorem rents_any (A : Option Addr) (n c : Nat) (l : List Dc) (pm : Bool) (w : World) (h : DcsAt w A n l) (hn : n ≤ 1048576) : Calls Tryd.prog 16 #[.slice A n c, .bool pm] w (TellEns (entsR (l.map Dc.pl) pm) w) := by
  cases pm with
  | false => exact rents_f A n c l w h hn
  | true => exact rents_t A n c l w h hn
theorem notI_at {ds : List DcP} {s : ByteArray} {k : Nat} {d : DcP} (h : ∀ j e, j < k → ds[j]? = some e → isNot s e = false) (hk : ds[k]? = some d) (hd : isNot s d = true) : notI ds s = k := by
  obtain ⟨h1, h2⟩ := List.getElem?_eq_some_iff.1 hk
  have : ds.findIdx? (isNot s) = some k := by
    rw [List.findIdx?_eq_some_iff_getElem]
    refine ⟨h1, by rw [h2]; exact hd, fun j hj => ?_⟩
    rw [h j ds[j] hj (List.getElem?_eq_getElem (by omega))]; decide
  unfold notI
  rw [this]
theorem notI_none {ds : List DcP} {s : ByteArray} (h : ∀ j e, j < ds.length → ds[j]? = some e → isNot s e = false) : notI ds s = -1 := by
  have : ds.findIdx? (isNot s) = none := by
    rw [List.findIdx?_eq_none_iff]
    intro x hx
    obtain ⟨j, hj⟩ := List.getElem?_of_mem hx
    exact h j x (List.getElem?_eq_some_iff.1 hj).1 hj
  unfold notI
  rw [this]
set_option maxRecDepth 100000 in
set_option maxHeartbeats 4000000 in
theorem rnot_any (A : Option Addr) (n c : Nat) (l : List Dc) (s : ByteArray) (w : World) (h : DcsAt w A n l) (hn : n ≤ 1048576) : Calls Tryd.prog 25 #[.slice A n c, .string s] w (RetI (notI (l.map Dc.pl) s) w) := by
  have DS := Lib.hid h
  clear h
  go_enter Tryd.func25, Tryd.ntmps25
  go_wp2
  go_loopw [5] (fun i wr => ∃ (k : Nat), k ≤ n ∧ i = .int .i64 k ∧ Hid (∀ j e, j < k → (l.map Dc.pl)[j]? = some e → isNot s e = false) ∧ wr = w) (fun i _ => n - (intOf i).toNat)
  case atStart => exact ⟨0, by omega, rfl, fun j e hj => absurd hj (Nat.not_lt_zero _), rfl⟩
  case round =>
    obtain ⟨k, hk, rfl, HT, rfl⟩ := hrel
    by_cases hlt : k < n
    · obtain ⟨a, d, rfl, hx, g, _⟩ := DS.out.2 k hlt
      obtain ⟨_, g0, g1, g2, g3, g4, g5, g6, g7, g8, g9, g10, g11, g12⟩ := g
      have b0 : (0 : Int) ≤ (k : Int) := by omega
      have b1 : (k : Int) < (n : Int) := by omega
      have hdk : (l.map Dc.pl)[k]? = some d.pl := by rw [List.getElem?_map, hx]; rfl
      have hstep : isNot s d.pl = false → ∀ j e, j < k + 1 → (l.map Dc.pl)[j]? = some e → isNot s e = false := fun h0 j e hj he => by
        rcases Nat.lt_or_eq_of_le (Nat.lt_succ_iff.1 hj) with h1 | h1
        · exact HT.out j e h1 he
        · subst h1
          rw [hdk] at he
          cases he
          exact h0
      by_cases h3 : d.ki = 3
      · by_cases hna : d.na = s
        · have G := Lib.hid (notI_at HT.out hdk (by unfold isNot; rw [decide_eq_true (show d.pl.ki = 3 from h3), decide_eq_true (show d.pl.na = s from hna)]; rfl))
          have q : (d.na.toList == s.toList) = true := by rw [hna]; simp
          clear hstep hdk hx hna
          go_wp2
          go_ret
          exact ⟨by rw [G.out]; rfl, rfl⟩
        · have H2 := Lib.hid (hstep (by unfold isNot; rw [decide_eq_false (show ¬ d.pl.na = s from hna), Bool.and_false]))
          have q : (d.na.toList == s.toList) = false := strT_no hna
          clear hstep hdk hx hna
          go_wp2
          go_roundw
          case rel => exact ⟨k + 1, by omega, by go_num, H2, trivial⟩
          case measure => simp [intOf]; omega
      · have H2 := Lib.hid (hstep (by unfold isNot; rw [decide_eq_false (show ¬ d.pl.ki = 3 from h3)]; rfl))
        clear hstep hdk hx
        go_wp2
        go_roundw
        case rel => exact ⟨k + 1, by omega, by go_num, H2, trivial⟩
        case measure => simp [intOf]; omega
    · obtain rfl : k = n := by omega
      have G := Lib.hid (notI_none (ds := l.map Dc.pl) (s := s) (by rw [List.length_map, DS.out.1]; exact HT.out))
      go_wp2
      go_ret
      exact ⟨by rw [G.out]; rfl, rfl⟩
theorem cntN_le (ds : List DcP) : ∀ k, cntN ds k ≤ k
  | 0 => Nat.le_refl _
  | k + 1 => by
    have := cntN_le ds k
    unfold cntN
    split
    · split <;> omega
    · omega
set_option maxRecDepth 100000 in
set_option maxHeartbeats 4000000 in
theorem rnots_any (A : Option Addr) (n c : Nat) (l : List Dc) (w : World) (h : DcsAt w A n l) (hn : n ≤ 1048576) : Calls Tryd.prog 36 #[.slice A n c] w (RetI (cntN (l.map Dc.pl) n) w) := by
  have DS := Lib.hid h
  clear h
  go_enter Tryd.func36, Tryd.ntmps36
  go_wp2
  go_loopw [3, 4] (fun m i wr => ∃ (k q : Nat), k ≤ n ∧ q ≤ k ∧ i = .int .i64 k ∧ m = .int .i64 q ∧ Hid (q = cntN (l.map Dc.pl) k) ∧ wr = w) (fun _ i _ => n - (intOf i).toNat)
  case atStart => exact ⟨0, 0, by omega, by omega, rfl, rfl, rfl, rfl⟩
  case round =>
    obtain ⟨k, q, hk, hq, rfl, rfl, HQ, rfl⟩ := hrel
    by_cases hlt : k < n
    · obtain ⟨a, d, hA, hx, g, _⟩ := DS.out.2 k hlt
      obtain ⟨_, g0, g1, g2, g3, g4, g5, g6, g7, g8, g9, g10, g11, g12⟩ := g
      have b0 : (0 : Int) ≤ (k : Int) := by omega
      have b1 : (k : Int) < (n : Int) := by omega
      have hdk : (l.map Dc.pl)[k]? = some d.pl := by rw [List.getElem?_map, hx]; rfl
      have C := Lib.hid (rnot_any A n c l d.na wr DS.out hn)
      subst hA
      by_cases h3 : d.ki = 3
      · by_cases hi : notI (l.map Dc.pl) d.na = (k : Int)
        · have H2 := Lib.hid (show q + 1 = cntN (l.map Dc.pl) (k + 1) by unfold cntN; rw [hdk, HQ.out]; dsimp only; rw [if_pos ⟨h3, hi⟩])
          clear hdk hx
          go_wp2_with fail
          refine C.out.mono ?_
          rintro e w4 ⟨rfl, rfl⟩
          rw [hi]
          clear C hi
          go_wp2
          go_roundw
          case rel => exact ⟨k + 1, q + 1, by omega, by omega, by go_num, by go_num, H2, trivial⟩
          case measure => simp [intOf]; omega
        · have H2 := Lib.hid (show q = cntN (l.map Dc.pl) (k + 1) by unfold cntN; rw [hdk, HQ.out]; dsimp only; rw [if_neg (fun h => hi h.2)]; rfl)
          have hib : (notI (l.map Dc.pl) d.na == (k : Int)) = false := by simpa using hi
          clear hdk hx
          go_wp2_with fail
          refine C.out.mono ?_
          rintro e w4 ⟨rfl, rfl⟩
          clear C hi
          go_wp2
          go_roundw
          case rel => exact ⟨k + 1, q, by omega, by omega, by go_num, by go_num, H2, trivial⟩
          case measure => simp [intOf]; omega
      · have H2 := Lib.hid (show q = cntN (l.map Dc.pl) (k + 1) by unfold cntN; rw [hdk, HQ.out]; dsimp only; rw [if_neg (fun h => h3 h.1)]; rfl)
        clear hdk hx C
        go_wp2
        go_roundw
        case rel => exact ⟨k + 1, q, by omega, by omega, by go_num, by go_num, H2, trivial⟩
        case measure => simp [intOf]; omega
    · obtain rfl : k = n := by omega
      go_wp2
      go_ret
      exact ⟨by rw [← HQ.out]; rfl, rfl⟩
def stepL (l : List ByteArray) (d : DcP) : List ByteArray := if d.ki = 2 then (if hasT l d.na = true then l else l ++ [d.na]) else l
def elsR (ds : List DcP) : List ByteArray := ds.foldl stepL []
theorem foldL_len (ds : List DcP) : ∀ l : List ByteArray, (ds.foldl stepL l).length ≤ l.length + ds.length := by
  induction ds with
  | nil => intro l; exact Nat.le_refl _
  | cons d ds ih =>
    intro l
    have h1 := ih (stepL l d)
    have h2 : (stepL l d).length ≤ l.length + 1 := by
      unfold stepL
      split
      · split
        · omega
        · simp
      · omega
    simp only [List.foldl_cons, List.length_cons]
    omega
theorem own_drewN {w : World} {base : Nat} {e : TypeId} {size : Nat} {v : Value} {n : Nat} {xs : List Value} (h : w.ownsRow base e size v n xs) (k : Nat) : (w.drewN k).ownsRow base e size v n xs := own_same h (fun b _ => by simp)
set_option maxRecDepth 100000 in
set_option maxHeartbeats 8000000 in
theorem relems_any (A : Option Addr) (n c : Nat) (l : List Dc) (w : World) (h : DcsAt w A n l) (hn : n ≤ 1048576) : Calls Tryd.prog 13 #[.slice A n c] w (TellRowD (elsR (l.map Dc.pl)) w) := by
  obtain ⟨i0, hi0, hz0, hz1, hz2⟩ := info_partsD Tryd.infoStrF
  have DS := Lib.hid h
  clear h
  go_enter Tryd.func13, Tryd.ntmps13
  go_wp2
  go_loopw [3, 4] (fun o i wr => ∃ (k : Nat) (B : Option Addr) (cb : Nat) (es : List ByteArray), k ≤ n ∧ i = .int .i64 k ∧ o = .slice B es.length cb ∧ Hid (es = ((l.map Dc.pl).take k).foldl stepL []) ∧ Hid (wr.ownsRow w.heap.size 9 1 (.slice B es.length cb) es.length (txtCells es)) ∧ Hid (Below w.heap.size w wr)) (fun _ i _ => n - (intOf i).toNat)
  case atStart => exact ⟨0, none, 0, [], by omega, rfl, rfl, rfl, World.ownsRow_nil _ _ _ _, Below.refl _ _⟩
  case round =>
    obtain ⟨k, B, cb, es, hk, rfl, rfl, HE, HO, HB⟩ := hrel
    by_cases hlt : k < n
    · obtain ⟨a, d, rfl, hx, g, _⟩ := (DcsAt.below (w := w) DS.out HB.out).2 k hlt
      obtain ⟨_, g0, g1, g2, g3, g4, g5, g6, g7, g8, g9, g10, g11, g12⟩ := g
      have b0 : (0 : Int) ≤ (k : Int) := by omega
      have b1 : (k : Int) < (n : Int) := by omega
      have hdk : (l.map Dc.pl)[k]? = some d.pl := by rw [List.getElem?_map, hx]; rfl
      have hnext := foldl_next stepL [] hdk
      have hel : es.length ≤ 1048576 := by
        have h1 := foldL_len ((l.map Dc.pl).take k) []
        rw [← HE.out, List.length_take] at h1
        simp at h1; omega
      have z1 := HB.out.size
      have TS := Lib.hid (TsAt.of_own HO.out)
      have HN := Lib.hid hnext
      clear hnext hdk hx
      generalize hem : es.length = m at *
      have HEM := Lib.hid hem
      obtain ⟨t0, ht0⟩ : ∃ t, t = (d.ki != 2) := ⟨_, rfl⟩
      have q0 := ht0.symm
      have HT0 := Lib.hid ht0
      clear hem ht0
      go_wp2
      go_loopw [5, 6] (fun v5 v6 wx => ∃ (j dd : Nat) (b : Bool), j ≤ m ∧ v6 = .int .i64 j ∧ b = (t0 || hasT (es.take j) d.na) ∧ v5 = .bool b ∧ wx = wr.drewN dd) (fun _ v6 _ => m - (intOf v6).toNat)
      case atStart => exact ⟨0, 0, t0, by omega, rfl, by simp [hasT], rfl, rfl⟩
      case round =>
        obtain ⟨j, dd, b, hj, rfl, hb, rfl, rfl⟩ := hrel
        have HBB := Lib.hid hb
        clear hb
        by_cases hltj : j < m
        · obtain ⟨a2, x, rfl, hx, _, x0⟩ := TS.out.2 j hltj
          have e0 : (0 : Int) ≤ (j : Int) := by omega
          have e1 : (j : Int) < (m : Int) := by omega
          have HS := Lib.hid (hasT_take (s := d.na) hx)
          clear hx
          cases b with
          | true =>
            have HN2 := Lib.hid (show true = (t0 || hasT (es.take (j + 1)) d.na) by rw [HS.out, ← Bool.or_assoc, ← HBB.out]; rfl)
            go_wp2_with fail
            go_quiet (fail)
            go_wp2
            go_roundw
            case rel => exact ⟨j + 1, _, true, by omega, by go_num, HN2.out, rfl, rfl⟩
            case measure => simp [intOf]; omega
          | false =>
            by_cases hxy : x = d.na
            · have HN2 := Lib.hid (show true = (t0 || hasT (es.take (j + 1)) d.na) by rw [HS.out, ← Bool.or_assoc, ← HBB.out, decide_eq_true hxy]; rfl)
              have q : (x.toList == d.na.toList) = true := by rw [hxy]; simp
              clear hxy
              go_wp2_with fail
              go_quiet (fail)
              go_wp2
              go_roundw
              case rel => exact ⟨j + 1, _, true, by omega, by go_num, HN2.out, rfl, rfl⟩
              case measure => simp [intOf]; omega
            · have HN2 := Lib.hid (show false = (t0 || hasT (es.take (j + 1)) d.na) by rw [HS.out, ← Bool.or_assoc, ← HBB.out, decide_eq_false hxy]; rfl)
              have q : (x.toList == d.na.toList) = false := strT_no hxy
              clear hxy
              go_wp2_with fail
              go_quiet (fail)
              go_wp2
              go_roundw
              case rel => exact ⟨j + 1, _, false, by omega, by go_num, HN2.out, rfl, rfl⟩
              case measure => simp [intOf]; omega
        · obtain rfl : j = m := by omega
          have hb2 : b = (t0 || hasT es d.na) := by
            have := HBB.out
            rwa [List.take_of_length_le (by rw [HEM.out]; exact Nat.le_refl _)] at this
          have HBD := Lib.hid (below_drewN HB.out dd)
          have HOD : Hid ((wr.drewN dd).ownsRow w.heap.size 9 1 (.slice B j cb) j (txtCells es)) := Lib.hid (own_drewN HO.out dd)
          cases b with
          | true =>
            have HE2 := Lib.hid (show es = ((l.map Dc.pl).take (k + 1)).foldl stepL [] by
              rw [HN.out, ← HE.out]
              unfold stepL
              by_cases h2 : d.pl.ki = 2
              · have h3 : t0 = false := by rw [HT0.out, show d.ki = 2 from h2]; rfl
                rw [h3] at hb2
                rw [if_pos h2, if_pos (show hasT es d.pl.na = true from (by simpa using hb2.symm : hasT es d.na = true))]
              · rw [if_neg h2])
            clear hb2
            go_wp2
            go_roundw
            case rel => exact ⟨k + 1, B, cb, es, by omega, by go_num, by rw [HEM.out], HE2, by show World.ownsRow _ _ _ _ _ _ _; rw [HEM.out]; exact HOD.out, HBD⟩
            case measure => simp [intOf]; omega
          | false =>
            have h3 : t0 = false := by cases t0 with
              | false => rfl
              | true => cases hb2
            have h4 : hasT es d.na = false := by rw [h3] at hb2; simpa using hb2.symm
            have HE2 := Lib.hid (show es ++ [d.na] = ((l.map Dc.pl).take (k + 1)).foldl stepL [] by
              rw [HN.out, ← HE.out]
              unfold stepL
              have h2 : d.pl.ki = 2 := by
                have := HT0.out
                rw [h3] at this
                show d.ki = 2
                simpa using this.symm
              rw [if_pos h2, if_neg (show ¬ hasT es d.pl.na = true from by show ¬ hasT es d.na = true; rw [h4]; decide)]; rfl)
            clear hb2 h3 h4
            go_upto_region 11 with (fail)
            generalize (Value.slice B j cb) = v at *
            have z2 := HBD.out.size
            go_wp2_with (at_builtin; refine wpList_append_own_at _ rfl (.tmp 40) (.tmp 46) 28 rfl w.heap.size 9 i0 (.string ⟨#[]⟩) 1 16 Tryd.underlying28 hi0 hz0 hz1 hz2 rfl (by decide) _ _ _ rfl (HOD.out.alloc _) ⟨(wr.drewN dd).heap.size, 0, none⟩ 1 1 [.string d.na] rfl rfl (litCells _ _ _) ?k2 ?k3 ?k4 ?k5 ?_)
            case k2 => intro u hu; obtain rfl : u = .string d.na := by simpa using hu
                       rfl
            case k3 => unfold maxLen; omega
            case k4 => omega
            case k5 => simp; omega
            intro o' w7 hown' hgrow _ hblk
            have HB7 := Lib.hid ((HBD.out.alloc z2 _).grown hgrow (by simp; omega) (fun g hg => (HOD.out.lt g hg).1))
            obtain ⟨B7, c7, rfl, _⟩ := own_shapeD hown'
            have HO7 : Hid (w7.ownsRow w.heap.size 9 1 (.slice B7 (es ++ [d.na]).length c7) (es ++ [d.na]).length (txtCells (es ++ [d.na]))) := by
              show w7.ownsRow _ _ _ _ _ _
              rw [← txt_snoc, List.length_append, HEM.out]; exact hown'
            clear hown' hgrow hblk HO
            go_wp2
            go_roundw
            case rel => exact ⟨k + 1, B7, c7, es ++ [d.na], by omega, by go_num, by rw [List.length_append, HEM.out]; rfl, HE2, HO7, HB7⟩
            case measure => simp [intOf]; omega
    · obtain rfl : k = n := by omega
      have e : es = elsR (l.map Dc.pl) := by
        have := HE.out
        rwa [List.take_of_length_le (by rw [List.length_map, DS.out.1]; exact Nat.le_refl _)] at this
      have E := Lib.hid e
      clear e
      go_wp2
      go_ret
      rw [← E.out]
      exact ⟨B, cb, rfl, HO.out, HB.out⟩
end Go.Proofs.YtapjmfgpdkghlaaDoor
