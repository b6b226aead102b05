/- The contracts of the reference's Runes and Ints. Conditions: bytes read as numbers from 0 to 255, fewer than 2^40 of them. -/
import Derived.Test.YtbklopnpehafpaaDoorUtfChar
import Derived.OwnWalk
import Derived.Deep.QuietTactic
import Derived.BigQuiet
namespace Go.Proofs.YtbklopnpehafpaaDoor
open Go.RowKit Go.Proofs.YtbklopnpehafpaaDoor.UtfPlain
theorem Tryd.infoInt : (Tryd.prog.info? 3).map (fun i => (i.zero, i.size, i.bytes)) = some (some (.int .i64 0), 1, 8) := by kernel_rfl
def intCells (l : List Int) : List Value := l.map (Value.int .i64)
/-- What Runes gives: all characters, and -1; or nil, and the place of the first that is none. -/
def TellRunes (p : List Int × Option Nat) (w : World) (e : Ending) (w' : World) : Prop :=
  ∃ v, e = .returned (.tuple #[v, .int .i64 (match p.2 with | some i => (i : Int) | none => -1)]) ∧
    (match p.2 with | some _ => v = .slice none 0 0 | none => ∃ A c, v = .slice A p.1.length c ∧ w'.ownsRow w.heap.size 3 1 v p.1.length (intCells p.1)) ∧ Below w.heap.size w w'
theorem ownsRow_below' {w w' : World} {base : Nat} {e : TypeId} {size : Nat} {v : Value} {n : Nat} {xs : List Value} (h : w.ownsRow base e size v n xs) (hb : Below w.heap.size w w') : w'.ownsRow base e size v n xs := by
  refine ⟨h.1, ?_⟩
  rcases h.2 with h2 | ⟨g, cap, cur, hv, hg, hh, r⟩
  · exact .inl h2
  · refine .inr ⟨g, cap, cur, hv, hg, ?_, r⟩
    rcases Nat.lt_or_ge g w.heap.size with hlt | hge
    · rw [hb.block g hlt]; exact hh
    · rw [Array.getElem?_eq_none hge] at hh; cases hh
theorem ownsRow_shape {w : World} {base size n : Nat} {e : TypeId} {v : Value} {xs : List Value} (h : w.ownsRow base e size v n xs) : ∃ A c, v = .slice A n c := by
  rcases h.2 with ⟨h1, h2⟩ | ⟨g, cap, cur, hv, _⟩
  · exact ⟨none, 0, by rw [h1, h2]⟩
  · exact ⟨_, cap, hv⟩
set_option maxHeartbeats 2000000 in
theorem rrunes_any (A : Option Addr) (n cp : Nat) (xs : List Int) (w : World) (hn : n ≤ 1099511627776) (hb : BytesAt w A n xs) :
    Calls Tryd.prog 37 #[.slice A n cp] w (TellRunes (runes xs) w) := by
  obtain ⟨i0, hi0, hz0, hz1, hz2⟩ := info_parts Tryd.infoInt
  have hxl := hb.1
  have B := Lib.hid hb
  have XL := Lib.hid hxl
  clear hb hxl
  go_enter Tryd.func37, Tryd.ntmps37
  go_wp2
  go_loopw [4, 5] (fun v i wr => ∃ (k : Nat) (l : List Int), k ≤ n ∧ l.length ≤ k ∧ i = .int .i64 k ∧ Hid (runes xs = (l ++ (scan xs (n - k) k).1, (scan xs (n - k) k).2)) ∧ Hid (wr.ownsRow w.heap.size 3 1 v l.length (intCells l)) ∧ Hid (Below w.heap.size w wr)) (fun _ i _ => n - (intOf i).toNat)
  case atStart => exact ⟨0, [], by omega, by simp, rfl, by show _ = _; unfold runes; rw [XL.out]; rfl, World.ownsRow_nil _ _ _ _, Below.refl _ _⟩
  case round =>
    obtain ⟨k, l, hk, hl, rfl, HE, HO, HB⟩ := hrel
    by_cases hlt : k < n
    · have hBk := Lib.hid (B.out.below HB.out)
      have hsz := charAt_size xs k
      have hin := charAt_in xs k (by rw [XL.out]; exact hlt)
      rw [XL.out] at hin
      by_cases hz : (charAt xs k).2 = 0
      · have hbad := scan_bad xs (n - k) k (by omega) (by rw [XL.out]; exact hlt) hz
        have E2 : Hid (runes xs = (l, some k)) := by show _ = _; rw [HE.out, hbad]; simp
        generalize hp : charAt xs k = p at *
        obtain ⟨r, m⟩ := p
        have P := Lib.hid hp
        simp only at hz hsz hin
        subst hz
        clear hp hbad
        go_wp2_with fail
        refine (rchar2_any A n cp k xs _ (by omega) hBk.out hlt).mono ?_
        rintro e w1 ⟨rfl, hb1⟩
        rw [P.out]
        have HB1 := Lib.hid (HB.out.trans (hb1.mono HB.out.size))
        clear hb1
        go_wp2
        go_ret2
        rw [E2.out]
        exact ⟨_, rfl, rfl, HB1.out⟩
      · have hok := scan_ok xs k (by rw [XL.out]; exact hlt) hz
        rw [XL.out] at hok
        have E2 : Hid (runes xs = ((l ++ [(charAt xs k).1]) ++ (scan xs (n - (k + (charAt xs k).2)) (k + (charAt xs k).2)).1, (scan xs (n - (k + (charAt xs k).2)) (k + (charAt xs k).2)).2)) := by
          show _ = _; rw [HE.out, hok]; simp
        generalize hp : charAt xs k = p at *
        obtain ⟨r, m⟩ := p
        have P := Lib.hid hp
        simp only at hz hsz hin E2
        have t1 : ((m : Int) == 0) = false := by simp; omega
        have hm : 1 ≤ m := by omega
        clear hp hok hz HE
        obtain ⟨A4, c4, rfl⟩ := ownsRow_shape HO.out
        go_wp2_with fail
        refine (rchar2_any A n cp k xs _ (by omega) hBk.out hlt).mono ?_
        rintro e w1 ⟨rfl, hb1⟩
        rw [P.out]
        have HB1 := HB.out.trans (hb1.mono HB.out.size)
        have HO1 := ownsRow_below' HO.out hb1
        have hsz := HB1.size
        clear HB HO hb1
        go_wp2_with (at_builtin; refine wpList_append_own _ rfl (.tmp 21) (.tmp 23) 64 rfl w.heap.size 3 i0 (.int .i64 0) 1 8 Tryd.underlying64 hi0 hz0 hz1 hz2 rfl (by decide) _ _ _ rfl (HO1.alloc _) ⟨w1.heap.size, 0, none⟩ 1 1 [.int .i64 r] rfl rfl ?c1 ?c2 ?c3 ?c4 ?c5 ?_)
        case c1 => exact cell_one_new _ _ _
        case c2 => intro u hu; simp at hu; subst hu; rfl
        case c3 => unfold maxLen; omega
        case c4 => omega
        case c5 => simp; omega
        intro v' w2 hown' hgrow _
        have HO2 := Lib.hid hown'
        have HB2 := Lib.hid ((HB1.alloc hsz _).grown hgrow (by simp; omega) (fun g hg => (HO1.lt g hg).1))
        clear hown' hgrow HO1 HB1
        go_wp2
        go_roundw
        case rel =>
          refine ⟨k + m, l ++ [r], by omega, by simp; omega, by go_num, E2, ?_, HB2⟩
          show World.ownsRow _ _ _ _ _ _ _
          have e : intCells (l ++ [r]) = intCells l ++ [.int .i64 r] := by simp [intCells]
          rw [e, List.length_append]
          exact HO2.out
        case measure => simp [intOf]; omega
    · obtain rfl : k = n := by omega
      have he := scan_end xs (k - k) k (by rw [XL.out]; exact Nat.le_refl _)
      have E2 : Hid (runes xs = (l, none)) := by show _ = _; rw [HE.out, he]; simp
      clear he HE
      go_wp2
      go_ret2
      rw [E2.out]
      obtain ⟨A4, c4, hv⟩ := ownsRow_shape HO.out
      exact ⟨_, rfl, ⟨A4, c4, hv, HO.out⟩, HB.out⟩
/-- A slice value's places, as far as its length, read as the numbers. -/
def NumsAt (w : World) (A : Option Addr) (n : Nat) (xs : List Int) : Prop :=
  xs.length = n ∧ ∀ k, k < n → ∃ a x, A = some a ∧ xs[k]? = some x ∧ a.block < w.heap.size ∧ w.cell? (a.add k) = some (.int .i64 x)
theorem NumsAt.below {w w' : World} {A : Option Addr} {n : Nat} {xs : List Int} (h : NumsAt w A n xs) (hb : Below w.heap.size w w') : NumsAt w' A n xs :=
  ⟨h.1, fun k hk => by
    obtain ⟨a, x, h1, h2, h5, h6⟩ := h.2 k hk
    exact ⟨a, x, h1, h2, Nat.lt_of_lt_of_le h5 hb.size, (hb.cell (p := a.add k) (by rw [addBlock]; exact h5)).trans h6⟩⟩
theorem NumsAt.of_own {w : World} {base : Nat} {e : TypeId} {A : Option Addr} {c : Nat} {xs : List Int} (h : w.ownsRow base e 1 (.slice A xs.length c) xs.length (intCells xs)) : NumsAt w A xs.length xs := by
  refine ⟨rfl, fun k hk => ?_⟩
  rcases h.2 with ⟨h2, h3⟩ | ⟨g, cap, cur, hv, _, hh, _⟩
  · omega
  · injection hv with hv1 hv2 hv3
    subst hv1
    refine ⟨_, xs[k], rfl, List.getElem?_eq_getElem hk, (h.lt g rfl).2, ?_⟩
    refine h.cells (g := g) rfl k _ ?_
    unfold intCells; rw [List.getElem?_map, List.getElem?_eq_getElem hk]; rfl
theorem scan_len (xs : List Int) (f i : Nat) : (scan xs f i).1.length ≤ f := by
  induction f generalizing i with
  | zero => simp [scan]
  | succ f ih =>
    unfold scan
    split
    · split
      · simp
      · simp; exact ih _
    · simp
end Go.Proofs.YtbklopnpehafpaaDoor
