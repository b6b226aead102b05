/- The contracts of the reference's Put, Check, One, Same and Great of layer 23. Conditions: at most 2^20 answers. -/
import Derived.Test.YtkpefendeonemaaDoorOrRef
import Derived.Test.YtkpefendeonemaaDoorBytesStr
import Derived.Deep.QuietTactic
import Derived.Deep.RegionHeld3
namespace Go.Proofs.YtkpefendeonemaaDoor
open Go.RowKit Go.Maps Go.Proofs.YtkpefendeonemaaDoor.UriPlain
set_option linter.unusedVariables false
set_option linter.unusedSimpArgs false
theorem AnsAt.of_own {w : World} {base c : Nat} {A : Option Addr} {l : List An} (h : w.ownsRow base 27 3 (.slice A l.length c) l.length (anCells l)) (hok : ∀ x ∈ l, AnOk w x) : AnsAt w A l.length l := by
  refine ⟨rfl, fun i hi => ?_⟩
  have hx : l[i]? = some l[i] := List.getElem?_eq_getElem hi
  rcases h.2 with ⟨_, h2⟩ | ⟨g, cap, cur, hv, hg, hh, _⟩
  · omega
  · cases hv
    obtain ⟨h0, h1, h2⟩ := anCells_at l i l[i] hx
    have hc : ∀ j u, (anCells l)[j]? = some u → w.cell? ⟨g, j, none⟩ = some u := fun j u hj => by
      have := h.cells rfl j u hj
      rwa [addGA] at this
    refine ⟨⟨g, 0, none⟩, l[i], rfl, hx, ?_, hok _ (List.getElem_mem hi)⟩
    rw [addGA]
    exact ⟨(h.lt g rfl).2, hc _ _ h0, hc _ _ h1, hc _ _ h2⟩
theorem ownRowA_below {w w' : World} {base : Nat} {e : TypeId} {size : Nat} {v : Value} {n : Nat} {xs : List Value} (h : w.ownsRow base e size v n xs) (hb : Below w.heap.size w w') : w'.ownsRow base e size v n xs := by
  refine ⟨h.1, ?_⟩
  rcases h.2 with h2 | ⟨g, cap, cur, hv, hg, hh, r⟩
  · exact .inl h2
  · exact .inr ⟨g, cap, cur, hv, hg, (hb.block g (Array.getElem?_eq_some_iff.1 hh).1).trans hh, r⟩
theorem ownRowA_shape {w : World} {base : Nat} {e : TypeId} {size : Nat} {v : Value} {n : Nat} {xs : List Value} (h : w.ownsRow base e size v n xs) : ∃ A c, v = .slice A n c ∧ n ≤ c ∧ c ≤ 9223372036854775807 := by
  rcases h.2 with ⟨h1, h2⟩ | ⟨g, cap, cur, rfl, _, _, h3, h4, _⟩
  · exact ⟨none, 0, by rw [h1, h2], by omega, by omega⟩
  · exact ⟨_, _, rfl, h3, by unfold maxLen at h4; exact h4⟩
def TellAnsR (ps : List AnP) (w : World) (e : Ending) (w' : World) : Prop := ∃ A c ys, e = .returned (.slice A ys.length c) ∧ ys.map An.pl = ps ∧ ys.length ≤ c ∧ c ≤ 9223372036854775807 ∧ AnsAt w' A ys.length ys ∧ Below w.heap.size w w'
set_option maxRecDepth 100000 in
set_option maxHeartbeats 8000000 in
theorem rcheckO_any (A : Option Addr) (n c : Nat) (l : List An) (w : World) (hl : AnsAt w A n l) (hn : n ≤ 9223372036854775806) :
    Calls Tryd.prog 14 #[.slice A n c] w (BelI (checkA (l.map An.pl)) w) := by
  obtain rfl := hl.1
  obtain ⟨r, hr⟩ : ∃ r, r = checkA (l.map An.pl) := ⟨_, rfl⟩
  rw [← hr]
  by_cases h256 : 256 < l.length
  · have t0 : (256 : Int) < (l.length : Int) := by omega
    have HR := Lib.hid (hr.trans (check_big (by rw [List.length_map]; exact h256)))
    clear hl hr h256
    go_enter Tryd.func14, Tryd.ntmps14
    go_wp2
    go_ret
    exact ⟨by rw [HR.out]; rfl, Below.refl _ _⟩
  · have t0 : ¬ (256 : Int) < (l.length : Int) := by omega
    have L := Lib.hid hl
    have HR := Lib.hid hr
    have H256 := Lib.hid h256
    clear hl hr
    go_enter Tryd.func14, Tryd.ntmps14
    go_wp2
    go_loopw [3] (fun i wr => ∃ (k : Nat), k ≤ l.length ∧ i = .int .i64 k ∧ Hid (∀ j, j < k → dupA (l.map An.pl) j = false) ∧ Hid (Below w.heap.size w wr)) (fun i _ => l.length - (intOf i).toNat)
    case atStart => exact ⟨0, by omega, rfl, (fun j hj => absurd hj (by omega)), Below.refl _ _⟩
    case round =>
      obtain ⟨k, hk', rfl, HN, HB⟩ := hrel
      by_cases hlt : k < l.length
      · obtain ⟨a, x, rfl, hx, hat, hok⟩ := L.out.2 k hlt
        have b0 : (0 : Int) ≤ (k : Int) := by omega
        have b1 : (k : Int) < (l.length : Int) := by omega
        obtain ⟨-, g0, g1, g2⟩ := hat.below HB.out hat.1
        have hxp : (l.map An.pl)[k]? = some x.pl := by rw [List.getElem?_map, hx]; rfl
        have hid := idx_dup hxp
        rw [show x.pl.id = x.id from rfl] at hid
        have F := Lib.hid (rfindO_any (some a) l.length c l x.id wr (L.out.below HB.out) hn)
        have HNX : Hid (dupA (l.map An.pl) k = false → ∀ j, j < k + 1 → dupA (l.map An.pl) j = false) := by
          intro h j hj
          rcases Nat.lt_or_eq_of_le (Nat.lt_succ_iff.1 hj) with h2 | rfl
          · exact HN.out j h2
          · exact h
        have HID := Lib.hid hid
        clear hx hat hok hxp hid
        go_wp2_with fail
        refine F.out.mono ?_
        rintro e w3 ⟨rfl, hB3⟩
        have HB3 := Lib.hid (HB.out.trans (hB3.mono HB.out.size))
        clear hB3 F g0 g1 g2
        cases hi : idxA (l.map An.pl) x.id with
        | none =>
          have hII : idxI (l.map An.pl) x.id = -1 := by unfold idxI; rw [hi]
          rw [hII]
          have hd : dupA (l.map An.pl) k = false := by
            cases hd : dupA (l.map An.pl) k with
            | false => rfl
            | true => obtain ⟨i, h1, _⟩ := HID.out.2 hd; rw [hi] at h1; cases h1
          have HQ := Lib.hid (HNX.out hd)
          clear hII hd hi
          go_wp2
          go_roundw
          case rel => exact ⟨k + 1, by omega, by go_num, HQ, HB3⟩
          case measure => simp [intOf]; omega
        | some i =>
          have hII : idxI (l.map An.pl) x.id = (i : Int) := by unfold idxI; rw [hi]
          rw [hII]
          have b2 : (0 : Int) ≤ (i : Int) := by omega
          by_cases hik : i < k
          · have hd := HID.out.1 ⟨i, hi, hik⟩
            have HR2 := Lib.hid (HR.out.trans (check_dup (by rw [List.length_map]; exact H256.out) (by rw [List.length_map]; exact hlt) hd))
            have b3 : (i : Int) < (k : Int) := by omega
            clear hII hd hi hik
            go_wp2
            go_ret
            exact ⟨by rw [HR2.out]; rfl, HB3.out⟩
          · have hd : dupA (l.map An.pl) k = false := by
              cases hd : dupA (l.map An.pl) k with
              | false => rfl
              | true => obtain ⟨j, h1, h2⟩ := HID.out.2 hd; rw [hi] at h1; cases h1; exact absurd h2 hik
            have HQ := Lib.hid (HNX.out hd)
            have b3 : ¬ (i : Int) < (k : Int) := by omega
            clear hII hd hi hik
            go_wp2
            go_roundw
            case rel => exact ⟨k + 1, by omega, by go_num, HQ, HB3⟩
            case measure => simp [intOf]; omega
      · obtain rfl : k = l.length := by omega
        have HR2 := Lib.hid (HR.out.trans (check_ok (by rw [List.length_map]; exact H256.out) (fun j hj => HN.out j (by rwa [List.length_map] at hj))))
        go_wp2
        go_ret
        exact ⟨by rw [HR2.out]; rfl, HB.out⟩
set_option maxRecDepth 100000 in
set_option maxHeartbeats 8000000 in
theorem rput_any (A : Option Addr) (n c : Nat) (l : List An) (w : World) (hl : AnsAt w A n l) (hn : n ≤ 1048576) :
    Calls Tryd.prog 12 #[.slice A n c] w (TellAnsR (putA (l.map An.pl)) w) := by
  obtain ⟨i0, hi0, hz0, hz1, hz2⟩ := info_partsO Tryd.infoAns
  obtain rfl := hl.1
  have L := Lib.hid hl
  clear hl
  go_enter Tryd.func12, Tryd.ntmps12
  go_wp2
  go_loopw [3, 4] (fun o i wr => ∃ (k : Nat) (v : Value) (ys : List An), v = o ∧ k ≤ l.length ∧ i = .int .i64 k ∧ Hid (ys.map An.pl = putA ((l.take k).map An.pl)) ∧ Hid (wr.ownsRow w.heap.size 27 3 v ys.length (anCells ys)) ∧ Hid (∀ y ∈ ys, AnOk w y) ∧ Hid (Below w.heap.size w wr)) (fun _ i _ => l.length - (intOf i).toNat)
  case atStart => exact ⟨0, _, [], rfl, by omega, rfl, rfl, World.ownsRow_nil _ _ _ _, (by show ∀ y ∈ [], _; simp), Below.refl _ _⟩
  case round =>
    obtain ⟨k, v, ys, rfl, hk', rfl, HY, HO, HOK, HB⟩ := hrel
    by_cases hlt : k < l.length
    · obtain ⟨a, x, rfl, hx, hat, hok⟩ := L.out.2 k hlt
      have b0 : (0 : Int) ≤ (k : Int) := by omega
      have b1 : (k : Int) < (l.length : Int) := by omega
      have hax := hat.below HB.out hat.1
      obtain ⟨-, g0, g1, g2⟩ := hax
      have hxp : (l.map An.pl)[k]? = some x.pl := by rw [List.getElem?_map, hx]; rfl
      have hih := idx_here hxp
      have hth := told_here hxp
      rw [show x.pl.id = x.id from rfl] at hih hth
      have hst : putA ((l.take (k + 1)).map An.pl) = stepA (putA ((l.take k).map An.pl)) x.pl := by rw [List.take_add_one, hx, List.map_append]; exact putA_snoc _ _
      have hmt : (l.map An.pl).take k = (l.take k).map An.pl := by rw [List.map_take]
      rw [hmt] at hih
      have hyl : ys.length ≤ k := by
        have h := congrArg List.length HY.out
        have h2 := putA_len ((l.take k).map An.pl)
        rw [List.length_map] at h
        rw [List.length_map, List.length_take] at h2
        omega
      have F := Lib.hid (rfindO_any (some a) l.length c l x.id wr (L.out.below HB.out) (by omega))
      have HIH := Lib.hid hih
      have HTH := Lib.hid hth
      have HST := Lib.hid hst
      have HAT := Lib.hid hat
      clear hx hat hok hxp hih hth hst hmt
      go_wp2_with fail
      refine F.out.mono ?_
      rintro e w3 ⟨rfl, hB3⟩
      have HB3 := Lib.hid (HB.out.trans (hB3.mono HB.out.size))
      have HO3 := Lib.hid (ownRowA_below HO.out hB3)
      obtain ⟨-, g0, g1, g2⟩ := HAT.out.below HB3.out HAT.out.1
      clear hB3 F HO HB
      by_cases hi : idxA (l.map An.pl) x.id = some k
      · have hII : idxI (l.map An.pl) x.id = (k : Int) := by unfold idxI; rw [hi]
        rw [hII]
        have hst2 := HST.out.trans (stepA_new (a := x.pl) (HIH.out.1 hi).1 (HIH.out.1 hi).2)
        have T := rtold_any (some a) l.length c l x.id w w3 L.out HB3.out (by omega)
        rw [HTH.out hi] at T
        have T := Lib.hid T
        have HS2 := Lib.hid hst2
        have t1 : ((k : Int) == (k : Int)) = true := by simp
        clear hII hi hst2
        go_wp2_with fail
        refine T.out.mono ?_
        rintro e w4 ⟨y, rfl, hy, hyo, hB4⟩
        obtain ⟨W, hW, hbW, -, -, c0, c1, c2⟩ := anBox w4 y 27
        have HB5 := Lib.hid ((HB3.out.trans (hB4.mono HB3.out.size)).trans (hbW.mono (Nat.le_trans HB3.out.size hB4.size)))
        have HO5 := Lib.hid (ownRowA_below (ownRowA_below HO3.out hB4) hbW)
        have hz5 := HB5.out.size
        have HYE := Lib.hid hy
        have HYO := Lib.hid hyo
        clear hy hyo hB4 hbW T HO3 HB3 g0 g1 g2
        go_wp2_with (at_builtin; refine wpList_append_own_at _ rfl (.tmp 32) (.tmp 34) 22 rfl w.heap.size 27 i0 (.agg #[.string ⟨#[]⟩, .bool false, .slice none 0 0]) 3 48 Tryd.underlying22 hi0 hz0 hz1 hz2 rfl (by decide) _ _ _ rfl (HO5.out.alloc _) ⟨W.heap.size, 0, none⟩ 1 1 [.string y.id, .bool y.ok, .slice y.D y.n y.c] rfl rfl (rowCell3A _ _ _ _ _) ?k2 ?k3 ?k4 ?k5 ?_)
        case k2 => exact three_newsA _ _ _ _ _
        case k3 => unfold maxLen; omega
        case k4 => omega
        case k5 => simp; omega
        intro o' w7 hown' hgrow _ hblk
        have HB7 := Lib.hid ((HB5.out.alloc hz5 _).grown hgrow (by simp; omega) (fun g hg => (HO5.out.lt g hg).1))
        have HO7 : Hid (w7.ownsRow w.heap.size 27 3 o' (ys ++ [y]).length (anCells (ys ++ [y]))) := by
          show World.ownsRow _ _ _ _ _ _ _
          rw [List.length_append, anCells_append]; exact hown'
        have HY7 : Hid ((ys ++ [y]).map An.pl = putA ((l.take (k + 1)).map An.pl)) := by
          show _ = _
          rw [HS2.out, List.map_append, List.map_cons, List.map_nil, HYE.out, HY.out]; rfl
        have HOK7 : Hid (∀ z ∈ ys ++ [y], AnOk w z) := by
          intro z hz
          rcases List.mem_append.1 hz with hz | hz
          · exact HOK.out z hz
          · simp at hz; subst hz; exact HYO.out
        clear hown' hgrow hblk HO5 HB5
        go_wp2
        go_roundw
        case rel => exact ⟨k + 1, _, ys ++ [y], rfl, by omega, by go_num, HY7, HO7, HOK7, HB7⟩
        case measure => simp [intOf]; omega
      · have t1 : (idxI (l.map An.pl) x.id == (k : Int)) = false := by
          rw [beq_eq_false_iff_ne]
          unfold idxI
          cases h : idxA (l.map An.pl) x.id with
          | none => show (-1 : Int) ≠ _; omega
          | some i => show (i : Int) ≠ _; intro e; exact hi (by rw [h]; congr 1; omega)
        have hst2 : putA ((l.take (k + 1)).map An.pl) = putA ((l.take k).map An.pl) := by
          rw [HST.out]
          exact if_neg (fun h => hi (HIH.out.2 h))
        have HS2 : Hid (ys.map An.pl = putA ((l.take (k + 1)).map An.pl)) := HY.out.trans hst2.symm
        clear hi hst2
        generalize idxI (l.map An.pl) x.id = r at *
        go_wp2
        go_roundw
        case rel => exact ⟨k + 1, v, ys, rfl, by omega, by go_num, HS2, HO3, HOK, HB3⟩
        case measure => simp [intOf]; omega
    · obtain rfl : k = l.length := by omega
      have hy := HY.out
      rw [List.take_length] at hy
      have HY2 := Lib.hid hy
      have hsh := ownRowA_shape HO.out
      obtain ⟨A2, c2, rfl, h1, h2⟩ := hsh
      have HAT := Lib.hid (AnsAt.of_own HO.out (fun y hy => (HOK.out y hy).below HB.out))
      clear hy HY
      go_wp2
      go_ret
      exact ⟨A2, c2, ys, rfl, HY2.out, h1, h2, HAT.out, HB.out⟩
end Go.Proofs.YtkpefendeonemaaDoor
