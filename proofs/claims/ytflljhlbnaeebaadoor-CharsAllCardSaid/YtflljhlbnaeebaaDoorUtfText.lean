/- The contracts of utf.Text, and of the reference's Text and Ints. Conditions: as utf.Encode; fewer than 2^40 numbers. -/
import Derived.Test.YtflljhlbnaeebaaDoorUtfLive
import Derived.Deep.QuietTactic
import Derived.BigQuiet
namespace Go.Proofs.YtflljhlbnaeebaaDoor
open Go.RowKit Go.Proofs.YtflljhlbnaeebaaDoor.UtfPlain
/-- A slice value's places, as far as its length, read as the numbers. -/
def NumsAt (w : World) (A : Option Addr) (n : Nat) (xs : List Int) : Prop :=
  xs.length = n ∧ ∀ k, k < n → ∃ a x, A = some a ∧ xs[k]? = some x ∧ a.block < w.heap.size ∧ w.cell? (a.add k) = some (.int .i64 x)
theorem NumsAt.below {w w' : World} {A : Option Addr} {n : Nat} {xs : List Int} (h : NumsAt w A n xs) (hb : Below w.heap.size w w') : NumsAt w' A n xs :=
  ⟨h.1, fun k hk => by
    obtain ⟨a, x, h1, h2, h5, h6⟩ := h.2 k hk
    exact ⟨a, x, h1, h2, Nat.lt_of_lt_of_le h5 hb.size, (hb.cell (p := a.add k) (by rw [addBlock]; exact h5)).trans h6⟩⟩
theorem NumsAt.of_own {w : World} {base : Nat} {e : TypeId} {A : Option Addr} {c : Nat} {xs : List Int} (h : w.ownsRow base e 1 (.slice A xs.length c) xs.length (intCells xs)) : NumsAt w A xs.length xs := by
  refine ⟨rfl, fun k hk => ?_⟩
  rcases h.2 with ⟨h2, h3⟩ | ⟨g, cap, cur, hv, _, hh, _⟩
  · omega
  · injection hv with hv1 hv2 hv3
    subst hv1
    refine ⟨_, xs[k], rfl, List.getElem?_eq_getElem hk, (h.lt g rfl).2, ?_⟩
    refine h.cells (g := g) rfl k _ ?_
    unfold intCells; rw [List.getElem?_map, List.getElem?_eq_getElem hk]; rfl
def flat (l : List Int) : List Int := l.flatMap encL
theorem flat_len (l : List Int) : (flat l).length ≤ 4 * l.length := by
  induction l with
  | nil => simp [flat]
  | cons r l ih => have := sizeR_b r; have := encL_length r; simp only [flat, List.flatMap_cons, List.length_append, List.length_cons] at *; omega
theorem flat_snoc (l : List Int) (r : Int) : flat (l ++ [r]) = flat l ++ encL r := by simp [flat]
def TellText (ok : Bool) (xs : List Int) (w : World) (e : Ending) (w' : World) : Prop :=
  ∃ A c, e = .returned (.tuple #[.slice A (if ok = true then xs.length else 0) c, .int .i64 (if ok = true then 0 else 6)]) ∧
    (ok = true → w'.ownsRow w.heap.size 5 1 (.slice A xs.length c) xs.length (byteCells xs)) ∧ Below w.heap.size w w'
theorem Tryd.infoU8 : (Tryd.prog.info? 5).map (fun i => (i.zero, i.size, i.bytes)) = some (some (.int .u8 0), 1, 1) := by kernel_rfl
theorem own_byte {w : World} {base n c : Nat} {e : TypeId} {a : Addr} {xs : List Value} (h : w.ownsRow base e 1 (.slice (some a) n c) n xs) : ∀ j u, xs[j]? = some u → w.cell? (a.add j) = some u := by
  intro j u hu
  rcases h.2 with ⟨h2, h3⟩ | ⟨g, cap, cur, hv, _, hh, _⟩
  · cases h2
  · cases hv
    exact h.cells (g := g) rfl j _ hu
set_option maxHeartbeats 4000000 in
set_option maxRecDepth 100000 in
theorem text_any (A : Option Addr) (n cp : Nat) (l : List Int) (w : World) (hn : n ≤ 1099511627776) (hb : NumsAt w A n l) (hf : FormsAt w) :
    Calls Tryd.prog 21 #[.slice A n cp] w (TellText (l.all isR) (flat l) w) := by
  obtain ⟨i0, hi0, hz0, hz1, hz2⟩ := info_parts Tryd.infoU8
  have B := Lib.hid hb
  have F := Lib.hid hf
  have XL := Lib.hid hb.1
  clear hb hf
  go_enter Tryd.func21, Tryd.ntmps21
  go_wp2
  go_loopw [4, 11] (fun v i wr => ∃ (k : Nat), k ≤ n ∧ i = .int .i64 k ∧ Hid ((l.take k).all isR = true) ∧ Hid (wr.ownsRow w.heap.size 5 1 v (flat (l.take k)).length (byteCells (flat (l.take k)))) ∧ Hid (Below w.heap.size w wr)) (fun _ i _ => n - (intOf i).toNat)
  case atStart => exact ⟨0, by omega, rfl, by show _ = _; simp, World.ownsRow_nil _ _ _ _, Below.refl _ _⟩
  case round =>
    obtain ⟨k, hk, rfl, HE, HO, HB⟩ := hrel
    by_cases hlt : k < n
    · obtain ⟨a, r, hA, hx, hab, hcell⟩ := (B.out.below HB.out).2 k hlt
      subst hA
      have HF := F.out.below HB.out F.out.size
      have hle := flat_len (l.take k)
      have hlt2 : (l.take k).length ≤ k := by rw [List.length_take]; omega
      have hT : l.take (k + 1) = l.take k ++ [r] := by rw [List.take_add_one, hx]; rfl
      have T := Lib.hid hT
      have X := Lib.hid hx
      clear hx hT hab
      cases hr : isR r with
      | false =>
        have R := Lib.hid hr
        clear hr
        go_wp2_with fail
        refine (encode_any r _ HF).mono ?_
        rintro e w1 ⟨A2, c2, rfl, hrow, hB1⟩
        clear hrow
        rw [R.out]
        simp only [if_neg Bool.false_ne_true]
        go_wp2
        go_ret2
        have hall : l.all isR = false := by
          rw [List.all_eq_false]; exact ⟨r, List.mem_of_getElem? X.out, by rw [R.out]; decide⟩
        rw [hall]
        exact ⟨none, 0, rfl, (fun h => by cases h), HB.out.trans (hB1.mono HB.out.size)⟩
      | true =>
        have R := Lib.hid hr
        clear hr
        obtain ⟨A4, c4, rfl⟩ := ownsRow_shape HO.out
        have hs := sizeR_b r
        have hel := encL_length r
        go_wp2_with fail
        refine (encode_any r _ HF).mono ?_
        rintro e w1 ⟨A2, c2, rfl, hrow, hB1⟩
        have hrow' := hrow R.out
        rw [R.out]
        simp only [if_true]
        clear hrow
        have HO1 := ownsRow_below' HO.out hB1
        have HB1 := HB.out.trans (hB1.mono HB.out.size)
        have hsz := HB1.size
        have hA2 : ∃ g : Addr, A2 = some g := by
          rcases hrow'.2 with ⟨h1, h2⟩ | ⟨g, cap, cur, h1, _⟩
          · omega
          · cases h1; exact ⟨_, rfl⟩
        obtain ⟨g2, rfl⟩ := hA2
        rw [← hel] at hrow'
        have hby := own_byte hrow'
        rw [hel] at hrow'
        have hbl : (byteCells (encL r)).length = sizeR r * 1 := by simp [byteCells, hel]
        clear HB HO hB1 hrow'
        generalize hS : sizeR r = m at *
        have S := Lib.hid hS
        generalize hL : (flat (l.take k)).length = q at *
        have L := Lib.hid hL
        clear hS hL
        go_wp2_with (at_builtin; refine wpList_append_own _ rfl (.tmp 23) (.tmp 24) 22 rfl w.heap.size 5 i0 (.int .u8 0) 1 1 Tryd.underlying22 hi0 hz0 hz1 hz2 rfl (by decide) _ _ _ rfl HO1 g2 m c2 (byteCells (encL r)) rfl hbl ?c1 ?c2 ?c3 ?c4 ?c5 ?_)
        case c1 => exact hby
        case c2 => intro u hu; simp [byteCells] at hu; obtain ⟨x, _, rfl⟩ := hu; rfl
        case c3 => unfold maxLen; omega
        case c4 => omega
        case c5 => exact hsz
        intro v' w2 hown' hgrow _
        have HO2 := Lib.hid hown'
        have HB2 := Lib.hid (HB1.grown hgrow (by omega) (fun g hg => (HO1.lt g hg).1))
        clear hown' hgrow HO1 HB1
        go_wp2
        go_roundw
        case rel =>
          refine ⟨k + 1, by omega, by go_num, ?_, ?_, HB2⟩
          · show _ = _; rw [T.out, List.all_append, HE.out]; simp [R.out]
          · show World.ownsRow _ _ _ _ _ _ _
            have e : byteCells (flat (l.take (k + 1))) = byteCells (flat (l.take k)) ++ byteCells (encL r) := by rw [T.out, flat_snoc]; simp [byteCells]
            have e2 : (flat (l.take (k + 1))).length = q + m := by rw [T.out, flat_snoc, List.length_append, L.out, hel]
            rw [e, e2]
            exact HO2.out
        case measure => simp [intOf]; omega
    · obtain rfl : k = n := by omega
      have ht : l.take k = l := List.take_of_length_le (by rw [XL.out]; exact Nat.le_refl _)
      rw [ht] at HE HO
      clear ht
      go_wp2
      go_ret2
      obtain ⟨A4, c4, hv⟩ := ownsRow_shape HO.out
      rw [HE.out]
      subst hv
      exact ⟨A4, c4, rfl, (fun _ => HO.out), HB.out⟩
def TellRText (ok : Bool) (xs : List Int) (w : World) (e : Ending) (w' : World) : Prop :=
  ∃ A c, e = .returned (.tuple #[.slice A (if ok = true then xs.length else 0) c, .bool ok]) ∧
    (ok = true → w'.ownsRow w.heap.size 5 1 (.slice A xs.length c) xs.length (byteCells xs)) ∧ Below w.heap.size w w'
set_option maxHeartbeats 4000000 in
set_option maxRecDepth 100000 in
theorem rtext_any (A : Option Addr) (n cp : Nat) (l : List Int) (w : World) (hn : n ≤ 1099511627776) (hb : NumsAt w A n l) :
    Calls Tryd.prog 22 #[.slice A n cp] w (TellRText (l.all isR) (flat l) w) := by
  obtain ⟨i0, hi0, hz0, hz1, hz2⟩ := info_parts Tryd.infoU8
  have B := Lib.hid hb
  have XL := Lib.hid hb.1
  clear hb
  go_enter Tryd.func22, Tryd.ntmps22
  go_wp2
  go_loopw [4, 5] (fun v i wr => ∃ (k : Nat), k ≤ n ∧ i = .int .i64 k ∧ Hid ((l.take k).all isR = true) ∧ Hid (wr.ownsRow w.heap.size 5 1 v (flat (l.take k)).length (byteCells (flat (l.take k)))) ∧ Hid (Below w.heap.size w wr)) (fun _ i _ => n - (intOf i).toNat)
  case atStart => exact ⟨0, by omega, rfl, by show _ = _; simp, World.ownsRow_nil _ _ _ _, Below.refl _ _⟩
  case round =>
    obtain ⟨k, hk, rfl, HE, HO, HB⟩ := hrel
    by_cases hlt : k < n
    · obtain ⟨a, r, hA, hx, hab, hcell⟩ := (B.out.below HB.out).2 k hlt
      subst hA
      have hle := flat_len (l.take k)
      have hlt2 : (l.take k).length ≤ k := by rw [List.length_take]; omega
      have hT : l.take (k + 1) = l.take k ++ [r] := by rw [List.take_add_one, hx]; rfl
      have T := Lib.hid hT
      have X := Lib.hid hx
      clear hx hT hab
      cases hr : isR r with
      | false =>
        have R := Lib.hid hr
        clear hr
        go_wp2_with fail
        refine (ris2_any r _).mono ?_
        rintro e w1 ⟨rfl, rfl⟩
        rw [R.out]
        go_wp2
        go_ret2
        have hall : l.all isR = false := by
          rw [List.all_eq_false]; exact ⟨r, List.mem_of_getElem? X.out, by rw [R.out]; decide⟩
        rw [hall]
        exact ⟨none, 0, rfl, (fun h => by cases h), HB.out⟩
      | true =>
        have R := Lib.hid hr
        clear hr
        obtain ⟨A4, c4, rfl⟩ := ownsRow_shape HO.out
        have hs := sizeR_b r
        have hel := encL_length r
        go_wp2_with fail
        refine (ris2_any r _).mono ?_
        rintro e w1 ⟨rfl, rfl⟩
        rw [R.out]
        go_wp2_with fail
        refine (rbytes_any r _ R.out).mono ?_
        rintro e w1 ⟨A2, c2, rfl, hrow', hB1⟩
        rw [hel] at hrow' ⊢
        have HO1 := ownsRow_below' HO.out hB1
        have HB1 := HB.out.trans (hB1.mono HB.out.size)
        have hsz := HB1.size
        have hA2 : ∃ g : Addr, A2 = some g := by
          rcases hrow'.2 with ⟨h1, h2⟩ | ⟨g, cap, cur, h1, _⟩
          · omega
          · cases h1; exact ⟨_, rfl⟩
        obtain ⟨g2, rfl⟩ := hA2
        rw [← hel] at hrow'
        have hby := own_byte hrow'
        rw [hel] at hrow'
        have hbl : (byteCells (encL r)).length = sizeR r * 1 := by simp [byteCells, hel]
        clear HB HO hB1 hrow'
        generalize hS : sizeR r = m at *
        have S := Lib.hid hS
        generalize hL : (flat (l.take k)).length = q at *
        have L := Lib.hid hL
        clear hS hL
        go_wp2_with (at_builtin; refine wpList_append_own _ rfl (.tmp 18) (.tmp 23) 22 rfl w.heap.size 5 i0 (.int .u8 0) 1 1 Tryd.underlying22 hi0 hz0 hz1 hz2 rfl (by decide) _ _ _ rfl HO1 g2 m c2 (byteCells (encL r)) rfl hbl ?c1 ?c2 ?c3 ?c4 ?c5 ?_)
        case c1 => exact hby
        case c2 => intro u hu; simp [byteCells] at hu; obtain ⟨x, _, rfl⟩ := hu; rfl
        case c3 => unfold maxLen; omega
        case c4 => omega
        case c5 => exact hsz
        intro v' w2 hown' hgrow _
        have HO2 := Lib.hid hown'
        have HB2 := Lib.hid (HB1.grown hgrow (by omega) (fun g hg => (HO1.lt g hg).1))
        clear hown' hgrow HO1 HB1
        go_wp2
        go_roundw
        case rel =>
          refine ⟨k + 1, by omega, by go_num, ?_, ?_, HB2⟩
          · show _ = _; rw [T.out, List.all_append, HE.out]; simp [R.out]
          · show World.ownsRow _ _ _ _ _ _ _
            have e : byteCells (flat (l.take (k + 1))) = byteCells (flat (l.take k)) ++ byteCells (encL r) := by rw [T.out, flat_snoc]; simp [byteCells]
            have e2 : (flat (l.take (k + 1))).length = q + m := by rw [T.out, flat_snoc, List.length_append, L.out, hel]
            rw [e, e2]
            exact HO2.out
        case measure => simp [intOf]; omega
    · obtain rfl : k = n := by omega
      have ht : l.take k = l := List.take_of_length_le (by rw [XL.out]; exact Nat.le_refl _)
      rw [ht] at HE HO
      clear ht
      go_wp2
      go_ret2
      obtain ⟨A4, c4, hv⟩ := ownsRow_shape HO.out
      rw [HE.out]
      subst hv
      exact ⟨A4, c4, rfl, (fun _ => HO.out), HB.out⟩
def RetT (w : World) (e : Ending) (w' : World) : Prop := e = .returned (.bool true) ∧ ∃ d, w' = w.drewN d
set_option maxHeartbeats 4000000 in
theorem ints_any (A A' : Option Addr) (n c c' : Nat) (xs : List Int) (w : World) (hn : n ≤ 1099511627776) (h1 : NumsAt w A n xs) (h2 : NumsAt w A' n xs) :
    Calls Tryd.prog 20 #[.slice A n c, .slice A' n c'] w (RetT w) := by
  go_enter Tryd.func20, Tryd.ntmps20
  go_wp2
  go_loopw [5] (fun i wr => ∃ (k d : Nat), k ≤ n ∧ i = .int .i64 k ∧ wr = w.drewN d) (fun i _ => n - (intOf i).toNat)
  case atStart => exact ⟨0, 0, by omega, rfl, rfl⟩
  case round =>
    obtain ⟨k, d, hk, rfl, rfl⟩ := hrel
    by_cases hlt : k < n
    · obtain ⟨a, x, rfl, hx, _, hc⟩ := h1.2 k hlt
      obtain ⟨a', x', rfl, hx', _, hc'⟩ := h2.2 k hlt
      rw [hx] at hx'
      obtain rfl := Option.some.inj hx'
      have hc1 : (w.drewN d).cell? (a.add k) = some (.int .i64 x) := hc
      have hc2 : (w.drewN d).cell? (a'.add k) = some (.int .i64 x) := hc'
      have b0 : (0 : Int) ≤ (k : Int) := by omega
      have b1 : (k : Int) < (n : Int) := by omega
      clear hx hx'
      go_wp2_with fail
      go_quiet (fail)
      go_wp2
      go_roundw
      case rel => exact ⟨k + 1, _, by omega, by go_num, rfl⟩
      case measure => simp [intOf]; omega
    · obtain rfl : k = n := by omega
      go_wp2
      go_ret
      exact ⟨rfl, _, rfl⟩
end Go.Proofs.YtflljhlbnaeebaaDoor
