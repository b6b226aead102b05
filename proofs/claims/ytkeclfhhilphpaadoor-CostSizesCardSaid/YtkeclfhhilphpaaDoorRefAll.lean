/- The contract of the reference's All: the references of a text, in a row. -/
import Derived.Test.YtkeclfhhilphpaaDoorRefEnt
import Derived.Maps.AppendAt
namespace Go.Proofs.YtkeclfhhilphpaaDoor
open Go.RowKit Go.Proofs.YtkeclfhhilphpaaDoor.UtfPlain Go.Proofs.YtkeclfhhilphpaaDoor.CharsPlain Go.Proofs.YtkeclfhhilphpaaDoor.NamePlain Go.Proofs.YtkeclfhhilphpaaDoor.RefPlain
def refCells (l : List RefR) : List Value := l.flatMap fun x => [.int .i64 x.a, .int .i64 x.b, .string (strOfNums x.s)]
theorem refCells_append (l m : List RefR) : refCells (l ++ m) = refCells l ++ refCells m := by simp [refCells]
theorem refCells_at (l : List RefR) (i : Nat) (x : RefR) (hx : l[i]? = some x) : (refCells l)[i * 3]? = some (.int .i64 x.a) ∧ (refCells l)[i * 3 + 1]? = some (.int .i64 x.b) ∧ (refCells l)[i * 3 + 2]? = some (.string (strOfNums x.s)) := by
  induction l generalizing i with
  | nil => simp at hx
  | cons y l ih =>
    cases i with
    | zero => simp at hx; subst hx; simp [refCells]
    | succ i =>
      have h := ih i (by simpa using hx)
      have e1 : (i + 1) * 3 = i * 3 + 1 + 1 + 1 := by omega
      simp only [refCells, List.flatMap_cons, List.cons_append, List.nil_append, e1] at h ⊢
      have r : ∀ j, i * 3 + 1 + 1 + 1 + j = (i * 3 + j) + 1 + 1 + 1 := fun j => by omega
      refine ⟨by simpa using h.1, ?_, ?_⟩
      · rw [r 1]; simpa using h.2.1
      · rw [r 2]; simpa using h.2.2
def RefsAt (w : World) (A : Option Addr) (n : Nat) (l : List RefR) : Prop := l.length = n ∧ ∀ i, i < n → ∃ a x, A = some a ∧ l[i]? = some x ∧ a.block < w.heap.size ∧ w.cell? (a.add (i * 3)) = some (.int .i64 x.a) ∧ w.cell? ⟨(a.add (i * 3)).block, (a.add (i * 3)).off + 1, none⟩ = some (.int .i64 x.b) ∧ w.cell? ⟨(a.add (i * 3)).block, (a.add (i * 3)).off + 2, none⟩ = some (.string (strOfNums x.s))
theorem RefsAt.below {w w' : World} {A : Option Addr} {n : Nat} {l : List RefR} (h : RefsAt w A n l) (hb : Below w.heap.size w w') : RefsAt w' A n l :=
  ⟨h.1, fun i hi => by
    obtain ⟨a, x, h1, h2, h3, h4, h5, h6⟩ := h.2 i hi
    have e : (a.add (i * 3)).block < w.heap.size := by rw [addBlock]; exact h3
    exact ⟨a, x, h1, h2, Nat.lt_of_lt_of_le h3 hb.size, (hb.cell e).trans h4, (hb.cell (p := ⟨(a.add (i * 3)).block, (a.add (i * 3)).off + 1, none⟩) e).trans h5, (hb.cell (p := ⟨(a.add (i * 3)).block, (a.add (i * 3)).off + 2, none⟩) e).trans h6⟩⟩
theorem addG (g j : Nat) : (⟨g, 0, none⟩ : Addr).add j = ⟨g, j, none⟩ := by unfold Addr.add; split <;> simp_all
theorem RefsAt.of_own {w : World} {base c : Nat} {T : TypeId} {A : Option Addr} {l : List RefR} (h : w.ownsRow base T 3 (.slice A l.length c) l.length (refCells l)) : RefsAt w A l.length l := by
  refine ⟨rfl, fun i hi => ?_⟩
  rcases h.2 with ⟨_, h2⟩ | ⟨g, cap, cur, hv, hg, hh, _⟩
  · omega
  · cases hv
    obtain ⟨h0, h1, h2⟩ := refCells_at l i l[i] (List.getElem?_eq_getElem hi)
    have hc : ∀ j u, (refCells l)[j]? = some u → w.cell? ⟨g, j, none⟩ = some u := fun j u hj => by
      have := h.cells rfl j u hj
      rwa [addG] at this
    refine ⟨⟨g, 0, none⟩, l[i], rfl, List.getElem?_eq_getElem hi, (h.lt g rfl).2, ?_⟩
    rw [addG]
    exact ⟨hc _ _ h0, hc _ _ h1, hc _ _ h2⟩
theorem refCell_new (w : World) (x y z : Value) (t : TypeId) : ∀ j u, [x, y, z][j]? = some u → (w.alloc (.cells #[x, y, z] t)).cell? ((⟨w.heap.size, 0, none⟩ : Addr).add j) = some u := by
  intro j u hj
  rw [addG]
  have : (w.alloc (.cells #[x, y, z] t)).heap[w.heap.size]? = some (.cells #[x, y, z] t (0, 0)) := heap_alloc_new w _
  rw [Lib.cell_of_heap this]
  simpa using hj
theorem ownB_below {w w' : World} {base : Nat} {e : TypeId} {size : Nat} {v : Value} {n : Nat} {xs : List Value} (h : w.ownsRow base e size v n xs) (hb : Below w.heap.size w w') : w'.ownsRow base e size v n xs := by
  refine ⟨h.1, ?_⟩
  rcases h.2 with h2 | ⟨g, cap, cur, hv, hg, hh, r⟩
  · exact .inl h2
  · refine .inr ⟨g, cap, cur, hv, hg, ?_, r⟩
    rcases Nat.lt_or_ge g w.heap.size with hlt | hge
    · rw [hb.block g hlt]; exact hh
    · rw [Array.getElem?_eq_none hge] at hh; cases hh
theorem own_shapeA {w : World} {base size n : Nat} {e : TypeId} {v : Value} {xs : List Value} (h : w.ownsRow base e size v n xs) : ∃ A c, v = .slice A n c := by
  rcases h.2 with ⟨h1, h2⟩ | ⟨g, cap, _, h1, _⟩
  · subst h2; exact ⟨_, _, h1⟩
  · exact ⟨_, _, h1⟩
theorem Tryd.infoRefA : (Tryd.prog.info? 82).map (fun i => (i.zero, i.size, i.bytes)) = some (some (.agg #[.int .i64 0, .int .i64 0, .string ⟨#[]⟩]), 3, 32) := by kernel_rfl
set_option maxRecDepth 100000 in
set_option maxHeartbeats 4000000 in
theorem rall18_any (s : ByteArray) (w : World) (hlen : s.size ≤ 1048576) :
    Calls Tryd.prog 30 #[.string s] w fun e w' => ∃ A c, e = .returned (.slice A (refsN (bsOf s)).length c) ∧ RefsAt w' A (refsN (bsOf s)).length (refsN (bsOf s)) ∧ Below w.heap.size w w' := by
  obtain ⟨i0, hi0, hz0, hz1, hz2⟩ := info_parts Tryd.infoRefA
  have hcv := Lib.run_convert_string_bytes (P := Tryd.prog) w 9 93 5 s Tryd.underlying9 Tryd.underlying93 Tryd.underlying5
  have hg1 := grownCap_ge w s.size 0 5
  have hg2 := grownCap_le_maxLen w s.size 0 5 (by unfold maxLen; omega)
  unfold maxLen at hg2
  have HX := Lib.hid (bsOf_len s)
  have hVb := bytesWorld_below w s
  have HBV := Lib.hid (bytesWorld_bytes w s)
  have HVB := Lib.hid hVb
  have hsv : w.heap.size ≤ (Lib.bytesWorld w 5 s).heap.size := hVb.size
  generalize hcap : grownCap w s.size 0 5 = cp at *
  clear hVb hcap
  go_enter Tryd.func30, Tryd.ntmps30
  go_wp2
  generalize hvv : Lib.bytesWorld w 5 s = V at *
  obtain ⟨xs, hxx⟩ : ∃ xs, bsOf s = xs := ⟨_, rfl⟩
  rw [hxx] at HX HBV
  have XS := Lib.hid hxx
  clear hvv hxx
  go_loopw [4, 5, 6, 7, 8] (fun v0 at_ _ _ _ wr => ∃ (k : Nat) (pre : List RefR) (v : Value), v = v0 ∧ k ≤ s.size ∧ at_ = .int .i64 k ∧ Hid (refsN xs = pre ++ refsA xs k) ∧ Hid (wr.ownsRow V.heap.size 82 3 v pre.length (refCells pre)) ∧ Hid (Below V.heap.size V wr)) (fun _ at_ _ _ _ _ => s.size - (intOf at_).toNat)
  case atStart => exact ⟨0, [], _, rfl, by omega, rfl, rfl, World.ownsRow_nil _ _ _ _, Below.refl _ _⟩
  case round =>
    obtain ⟨k, pre, v, rfl, hk, rfl, HE, HO, HB⟩ := hrel
    have HBw := Lib.hid (HVB.out.trans (HB.out.mono hsv))
    by_cases hlt : k < s.size
    · have EN := Lib.hid (rent_any (some ⟨w.heap.size, 0, none⟩) s.size cp k 38 xs wr (by omega) hg1 (by omega) (HBV.out.below HB.out) (by omega))
      cases hp : entN xs 38 k with
      | mk nm rest =>
      obtain ⟨nx, er⟩ := rest
      rw [hp] at EN
      by_cases he : er = 0
      · subst he
        have hnx := entN_next xs k (by rw [HX.out]; exact hlt) (by rw [hp])
        rw [hp, HX.out] at hnx
        have hnx2 : k + 2 ≤ nx ∧ nx ≤ s.size := ⟨hnx.1, hnx.2.1⟩
        have E3 : Hid (refsN xs = (pre ++ [⟨k, nx, nm⟩]) ++ refsA xs nx) := by
          show _ = _
          rw [HE.out, refsA_yes xs k (by rw [HX.out]; exact hlt) (by rw [hp]), hp]; simp
        have hpl : pre.length + 1 ≤ s.size := by
          have h1 := refsN_len xs
          rw [E3.out, HX.out] at h1
          simp at h1; omega
        clear hp hnx HE
        go_wp2_with fail
        refine EN.out.mono ?_
        rintro e w2 ⟨rfl, hB2⟩
        have hown := ownB_below HO.out hB2
        have HB2 := Lib.hid (HB.out.trans (hB2.mono HB.out.size))
        have hsz : w.heap.size ≤ w2.heap.size := Nat.le_trans HBw.out.size hB2.size
        have hsV : V.heap.size ≤ w2.heap.size := HB2.out.size
        clear hB2 EN HO
        go_wp2_with (at_builtin; refine wpList_append_own _ rfl (.tmp 26) (.tmp 31) 80 rfl V.heap.size 82 i0 (.agg #[.int .i64 0, .int .i64 0, .string ⟨#[]⟩]) 3 32 Tryd.underlying80 hi0 hz0 hz1 hz2 rfl (by decide) _ _ _ rfl (hown.alloc _) ⟨w2.heap.size, 0, none⟩ 1 1 [.int .i64 k, .int .i64 nx, .string (strOfNums nm)] rfl rfl ?c1 ?c2 ?c3 ?c4 ?c5 ?_)
        case c1 => exact refCell_new _ _ _ _ _
        case c2 => (first | rfl | exact ⟨rfl, rfl, rfl⟩ | (intro u hu; simp at hu; rcases hu with rfl | rfl | rfl <;> rfl))
        case c3 => unfold maxLen; omega
        case c4 => omega
        case c5 => (first | omega | (simp; omega))
        intro v' w3 hown' hgrow _
        have hown3 : w3.ownsRow V.heap.size 82 3 v' (pre ++ [(⟨k, nx, nm⟩ : RefR)]).length (refCells (pre ++ [⟨k, nx, nm⟩])) := by
          rw [List.length_append, refCells_append]; exact hown'
        have HO3 := Lib.hid hown3
        have HB3 := Lib.hid ((HB2.out.alloc hsV _).grown hgrow (by simp; omega) (fun g hg => (hown.lt g hg).1))
        clear hown' hgrow hown hown3
        go_wp2
        go_roundw
        case rel => exact ⟨nx, pre ++ [⟨k, nx, nm⟩], v', rfl, by omega, rfl, E3, HO3, HB3⟩
        case measure => simp [intOf]; omega
      · have E3 : Hid (refsN xs = pre ++ refsA xs (k + 1)) := by
          show _ = _
          rw [HE.out, refsA_no xs k (by rw [HX.out]; exact hlt) (by rw [hp]; exact he)]
        have q1 : (er != 0) = true := by simpa using he
        clear hp HE he
        go_wp2_with fail
        refine EN.out.mono ?_
        rintro e w2 ⟨rfl, hB2⟩
        have hown := Lib.hid (ownB_below HO.out hB2)
        have HB2 := Lib.hid (HB.out.trans (hB2.mono HB.out.size))
        clear hB2 EN HO
        go_wp2
        go_roundw
        case rel => exact ⟨k + 1, pre, _, rfl, by omega, by go_num, E3, hown, HB2⟩
        case measure => simp [intOf]; omega
    · obtain rfl : k = s.size := by omega
      have E2 : Hid (refsN xs = pre) := by
        show _ = _
        rw [HE.out, refsA_end xs _ (by rw [HX.out]; exact Nat.le_refl _), List.append_nil]
      have hown := HO.out
      obtain ⟨A, c, hv⟩ := own_shapeA hown
      rw [hv] at hown
      subst hv
      have RO := Lib.hid (RefsAt.of_own hown)
      clear hown HO HE
      go_wp2
      go_ret
      rw [XS.out, E2.out]
      exact ⟨A, c, rfl, RO.out, HBw.out⟩
end Go.Proofs.YtkeclfhhilphpaaDoor
