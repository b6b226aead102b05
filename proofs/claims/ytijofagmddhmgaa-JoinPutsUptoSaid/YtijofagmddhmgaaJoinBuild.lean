/- strings.Builder as the second field of a Joiner: WriteString, String, Reset there. Conditions: at most 2^40 bytes. -/
import Derived.Test.YtijofagmddhmgaaBuild
import Derived.Lib.UnsafeStr
import Derived.Deep.RegionHeld3
namespace Go.Proofs.Ytijofagmddhmgaa
open Go.RowKit
/-- Every row whose elements are of none of these types is as it was. -/
def KeptT (bad : TypeId → Prop) (w w' : World) : Prop := ∀ (k : Nat) (cur : Array Value) (t : TypeId) (fz : Nat × Nat), w.heap[k]? = some (Obj.cells cur t fz) → ¬ bad t → w'.heap[k]? = some (Obj.cells cur t fz)
theorem KeptT.refl (bad : TypeId → Prop) (w : World) : KeptT bad w w := fun _ _ _ _ h _ => h
theorem KeptT.trans {bad : TypeId → Prop} {w w1 w2 : World} (h : KeptT bad w w1) (h2 : KeptT bad w1 w2) : KeptT bad w w2 := fun k cur t fz hk hb => h2 k cur t fz (h k cur t fz hk hb) hb
theorem KeptT.mono {bad bad' : TypeId → Prop} {w w' : World} (h : KeptT bad w w') (hb : ∀ t, bad t → bad' t) : KeptT bad' w w' := fun k cur t fz hk hn => h k cur t fz hk fun h' => hn (hb t h')
theorem KeptT.below {bad : TypeId → Prop} {w w' : World} (h : Below w.heap.size w w') : KeptT bad w w' := fun k cur t fz hk _ => by
  rw [h.block k (by rcases Nat.lt_or_ge k w.heap.size with h' | h'; exact h'; rw [Array.getElem?_eq_none h'] at hk; cases hk)]; exact hk
theorem own_kept {bad : TypeId → Prop} {w w' : World} {base : Nat} {e : TypeId} {size : Nat} {v : Value} {n : Nat} {xs : List Value} (h : w.ownsRow base e size v n xs) (hk : KeptT bad w w') (hb : ¬ bad e) : w'.ownsRow base e size v n xs := by
  refine ⟨h.1, ?_⟩
  rcases h.2 with h2 | ⟨g, cap, cur, hv, hg, hh, r⟩
  · exact .inl h2
  · exact .inr ⟨g, cap, cur, hv, hg, hk g cur e (0, 0) hh hb, r⟩
theorem KeptT.grown {bad : TypeId → Prop} {w w' : World} {base : Nat} {e : TypeId} {size : Nat} {v : Value} {n : Nat} {xs : List Value} (h : w.ownsRow base e size v n xs) (hg : w.grownBy w' v.ownBlock) (hb : bad e) : KeptT bad w w' := fun k cur t fz hk hn => by
  have hlt : k < w.heap.size := by rcases Nat.lt_or_ge k w.heap.size with h' | h'; exact h'; rw [Array.getElem?_eq_none h'] at hk; cases hk
  rw [hg.block k hlt ?_]
  · exact hk
  · intro heq
    rcases h.2 with ⟨rfl, _⟩ | ⟨g, cap, cur', rfl, _, hh, _⟩
    · cases heq
    · cases heq; rw [hk] at hh; cases hh; exact hn hb
theorem own_ne {w : World} {base : Nat} {e : TypeId} {size : Nat} {v : Value} {n : Nat} {xs : List Value} (h : w.ownsRow base e size v n xs) {b : Nat} {cur : Array Value} {t : TypeId} {fz : Nat × Nat} (hb : w.heap[b]? = some (.cells cur t fz)) (hne : e ≠ t) : v.ownBlock ≠ some b := by
  intro heq
  rcases h.2 with ⟨rfl, _⟩ | ⟨g, cap, cur', rfl, _, hh, _⟩
  · cases heq
  · cases heq; rw [hb] at hh; cases hh; exact hne rfl
/-- The joiner's block. -/
def JAt (b : Nat) (fn p v : Value) (w : World) : Prop := w.heap[b]? = some (.cells #[fn, p, v] 69 (0, 0))
theorem JAt.lt {b : Nat} {fn p v : Value} {w : World} (h : JAt b fn p v w) : b < w.heap.size := by
  rcases Nat.lt_or_ge b w.heap.size with h' | h'
  · exact h'
  · unfold JAt at h; rw [Array.getElem?_eq_none h'] at h; cases h
theorem JAt.c0 {b : Nat} {fn p v : Value} {w : World} (h : JAt b fn p v w) : w.cell? ⟨b, 0, none⟩ = some fn := by rw [Lib.cell_of_heap h]; rfl
theorem JAt.c1 {b : Nat} {fn p v : Value} {w : World} (h : JAt b fn p v w) : w.cell? ⟨b, 1, none⟩ = some p := by rw [Lib.cell_of_heap h]; rfl
theorem JAt.c2 {b : Nat} {fn p v : Value} {w : World} (h : JAt b fn p v w) : w.cell? ⟨b, 2, none⟩ = some v := by rw [Lib.cell_of_heap h]; rfl
theorem JAt.fz {b : Nat} {fn p v : Value} {w : World} (h : JAt b fn p v w) (j : Nat) : w.frozen? ⟨b, j, none⟩ = false := Lib.frozen_of_heap h j
theorem JAt.shape {b : Nat} {fn p v : Value} {w : World} (h : JAt b fn p v w) : w.shape? b = some (69, 3) := by unfold JAt at h; simp [World.shape?, h]
theorem set_heap {w : World} {b : Nat} {cur : Array Value} {t : TypeId} {fz : Nat × Nat} (h : w.heap[b]? = some (.cells cur t fz)) (o : Nat) (u : Value) : (w.setCell ⟨b, o, none⟩ u).heap[b]? = some (.cells (cur.setIfInBounds o u) t fz) := by
  simp [World.setCell, Array.getElem?_modify, h]
theorem JAt.set1 {b : Nat} {fn p v : Value} {w : World} (h : JAt b fn p v w) (q : Value) : JAt b fn q v (w.setCell ⟨b, 1, none⟩ q) := set_heap h 1 q
theorem JAt.set2 {b : Nat} {fn p v : Value} {w : World} (h : JAt b fn p v w) (u : Value) : JAt b fn p u (w.setCell ⟨b, 2, none⟩ u) := set_heap h 2 u
theorem JAt.kept {b : Nat} {fn p v : Value} {w w' : World} {bad : TypeId → Prop} (h : JAt b fn p v w) (hk : KeptT bad w w') (hb : ¬ bad 69) : JAt b fn p v w' := hk _ _ _ _ h hb
theorem Try.liesJoiner : liesAt Try.prog Try.prog.depth 69 (3 / Try.prog.cellsOf 69) 1 67 1 = true := by kernel_rfl
theorem KeptT.set {bad : TypeId → Prop} {w : World} {b : Nat} {cur : Array Value} {t : TypeId} {fz : Nat × Nat} (h : w.heap[b]? = some (.cells cur t fz)) (hb : bad t) (o : Nat) (u : Value) : KeptT bad w (w.setCell ⟨b, o, none⟩ u) := fun k c t' fz' hk hn => by
  by_cases hkb : k = b
  · subst hkb; rw [h] at hk; cases hk; exact absurd hb hn
  · rw [Below.heap_setCell w ⟨b, o, none⟩ u k hkb]; exact hk
def badJ : TypeId → Prop := fun t => t = 69
def badW : TypeId → Prop := fun t => t = 5 ∨ t = 69
theorem badJ_W : ∀ t, badJ t → badW t := fun _ h => .inr h
theorem notJ5 : ¬ badJ 5 := by unfold badJ; decide
set_option maxHeartbeats 1000000 in
set_option maxRecDepth 100000 in
theorem jcheck (B b : Nat) (fn p v : Value) (w : World) (hB : B ≤ b) (h : JAt b fn p v w) (hp : p = .pointer none ∨ p = .pointer (some ⟨b, 1, none⟩)) :
    Calls Try.prog 51 #[.pointer (some ⟨b, 1, none⟩)] w fun e w' => e = .returned (.tuple #[]) ∧ (JAt b fn (.pointer (some ⟨b, 1, none⟩)) v w' ∧ Below B w w' ∧ KeptT badJ w w') := by
  rcases hp with rfl | rfl
  · refine (copyCheck_fresh _ 3 b 1 w h.c1 h.shape (by omega) (h.fz 1) Try.liesJoiner).mono ?_
    rintro e w' ⟨rfl, rfl⟩
    exact ⟨rfl, h.set1 _, (Below.refl B w).setCell (p := ⟨b, 1, none⟩) hB _, KeptT.set (bad := badJ) h rfl 1 _⟩
  · refine (copyCheck_used b 1 w h.c1).mono ?_
    rintro e w' ⟨rfl, rfl⟩
    exact ⟨rfl, h, Below.refl B _, KeptT.refl _ _⟩
/-- What a joiner holds: its text, in a row of the call's own; nil where there is none. -/
def JText (B : Nat) (v : Value) (s : ByteArray) (w : World) : Prop := w.ownsRow B 5 1 v s.size (Lib.strCells s) ∧ (s.size = 0 → v = .slice none 0 0)
theorem strCells_appendJ (a b : ByteArray) : Lib.strCells (a ++ b) = Lib.strCells a ++ Lib.strCells b := by
  unfold Lib.strCells; rw [ByteArray.data_append, Array.toList_append, List.map_append]
set_option maxHeartbeats 1000000 in
set_option maxRecDepth 100000 in
theorem jwrite (B b : Nat) (fn p v : Value) (t s : ByteArray) (w : World) (hB : B ≤ b) (h : JAt b fn p v w) (hp : p = .pointer none ∨ p = .pointer (some ⟨b, 1, none⟩)) (ht : JText B v t w) (hlen : t.size + s.size ≤ 140737488355328) :
    Calls Try.prog 41 #[.pointer (some ⟨b, 1, none⟩), .string s] w fun e w' => e = .returned (.tuple #[.int .i64 s.size, .nilIface]) ∧
      (∃ v', JAt b fn (.pointer (some ⟨b, 1, none⟩)) v' w' ∧ JText B v' (t ++ s) w') ∧ Below B w w' ∧ KeptT badW w w' := by
  obtain ⟨i0, hi, hz0, hz1, hz2⟩ := info_parts Try.infoByteB
  have HT := Lib.hid ht
  clear ht
  go_enter Try.func41, Try.ntmps41
  go_wp2_with fail
  refine (jcheck B b fn p v _ hB h hp).mono ?_
  rintro e w1 ⟨rfl, h1, hb1, hk1⟩
  have hown := own_kept HT.out.1 hk1 notJ5
  have hN := Lib.hid HT.out.2
  have HB := Lib.hid hb1
  have HK := Lib.hid hk1
  have H1 := Lib.hid h1
  have c0 := h1.c1
  have c1 := h1.c2
  clear HT hb1 hk1 h1 h hp
  go_wp2_with (at_builtin; refine Lib.wpList_append_own_string _ rfl _ _ 65 9 rfl B 5 i0 Try.underlying65 Try.underlying9 hi hz0 hz1 hz2 _ _ _ rfl hown s rfl ?k3 ?k4 ?k5 ?_)
  case k3 => unfold maxLen; omega
  case k4 => omega
  case k5 => have := HB.out.size; have := H1.out.lt; omega
  intro v' w2 hown' hgrow hnil
  have hk2 : KeptT badW w1 w2 := KeptT.grown hown hgrow (.inl rfl)
  have h2 : JAt b fn (.pointer (some ⟨b, 1, none⟩)) v w2 := by
    have := hgrow.block b H1.out.lt (fun e => own_ne hown H1.out (by decide) e.symm)
    exact this.trans H1.out
  have d0 := h2.c1
  have d1 := h2.c2
  have f1 := h2.fz 2
  obtain ⟨ao, n', cap, rfl⟩ : ∃ ao n' cap, v' = .slice ao n' cap := by
    rcases hown'.2 with ⟨hv, _⟩ | ⟨g, cap, cur, hv, _⟩
    · exact ⟨_, _, _, hv⟩
    · exact ⟨_, _, _, hv⟩
  have HB2 := Lib.hid (HB.out.grown hgrow (by have := HB.out.size; have := H1.out.lt; omega) (fun k hk => (hown.lt k hk).1))
  have HO2 := Lib.hid hown'
  have HNil := Lib.hid hnil
  have HK2 := Lib.hid hk2
  have H2 := Lib.hid h2
  clear hown' hnil hk2 h2 hgrow
  go_wp2
  go_ret2
  have hset := KeptT.set (bad := badJ) H2.out rfl 2 (.slice ao n' cap)
  refine ⟨rfl, ⟨_, H2.out.set2 _, ?_, ?_⟩, HB2.out.setCell (p := ⟨b, 2, none⟩) hB _, ((HK.out.mono badJ_W).trans HK2.out).trans (hset.mono badJ_W)⟩
  · rw [ByteArray.size_append, strCells_appendJ]; exact own_kept HO2.out hset notJ5
  · intro hz
    rw [ByteArray.size_append] at hz
    have e1 : t.size = 0 := by omega
    have e2 : s.size = 0 := by omega
    exact HNil.out.2 ⟨hN.out e1, by simpa using e2⟩
theorem jreset (B b : Nat) (fn p v : Value) (w : World) (hB : B ≤ b) (h : JAt b fn p v w) :
    Calls Try.prog 43 #[.pointer (some ⟨b, 1, none⟩)] w fun e w' => e = .returned (.tuple #[]) ∧ JAt b fn (.pointer none) (.slice none 0 0) w' ∧ Below B w w' ∧ KeptT badJ w w' := by
  have c1 := h.c1
  have c2 := h.c2
  have f1 := h.fz 1
  have f2 := h.fz 2
  have H := Lib.hid h
  clear h
  go_enter Try.func43, Try.ntmps43
  go_wp2
  go_end0
  have h1 := H.out.set1 (.pointer none)
  refine ⟨rfl, h1.set2 _, ((Below.refl B w).setCell (p := ⟨b, 1, none⟩) hB _).setCell (p := ⟨b, 2, none⟩) hB _, (KeptT.set (bad := badJ) H.out rfl 1 _).trans (KeptT.set (bad := badJ) h1 rfl 2 _)⟩
theorem Try.cellsByteJ : Try.prog.cellsOf 5 = 1 := by kernel_rfl
def badS : TypeId → Prop := fun t => t = 5
set_option maxHeartbeats 2000000 in
set_option maxRecDepth 100000 in
theorem jstring_nil (B b : Nat) (fn p : Value) (w : World) (h : JAt b fn p (.slice none 0 0) w) :
    Calls Try.prog 42 #[.pointer (some ⟨b, 1, none⟩)] w fun e w' => e = .returned (.string ⟨#[]⟩) ∧ Below B w w' ∧ KeptT badS w w' := by
  have hUS : ∀ W q, (Builtin.unsafeString_ #[81, 3] 9 #[.pointer q, .int .i64 0]).run Try.prog W = .ok (.string .empty) W := fun W q => Lib.run_unsafeString_none W _ _ _ q
  have c1 : w.drew.cell? ⟨b, 2, none⟩ = some (.slice none 0 0) := h.c2
  have hSD : ∀ W, (Builtin.unsafeSliceData_ #[65] 81 #[.slice none 0 0]).run Try.prog W = .ok (.pointer none) W := fun _ => rfl
  clear h
  go_enter Try.func42, Try.ntmps42
  go_wp2_with fail
  go_region_held3 (fun w' => w'.cell? ⟨b, 2, none⟩ = some (.slice none 0 0)) (first | exact c1 | assumption) (fail)
  all_goals (go_wp2; go_ret; exact ⟨rfl, Below.drew (Below.refl B w), KeptT.below (Below.drew (Below.refl _ w))⟩)
theorem freeze_kept {w : World} {g n : Nat} {cur : Array Value} {fz : Nat × Nat} (hg : w.heap[g]? = some (.cells cur 5 fz)) : KeptT badS w (w.freeze ⟨g, 0, none⟩ n) := fun k c t fz' hk hn => by
  by_cases hkg : k = g
  · subst hkg; rw [hg] at hk; cases hk; exact absurd rfl hn
  · unfold World.freeze
    split
    · exact hk
    · simp only [Array.getElem?_modify]
      rw [if_neg (fun h => hkg h.symm)]
      exact hk
set_option maxHeartbeats 2000000 in
set_option maxRecDepth 100000 in
theorem jstring_some (B b : Nat) (fn p v : Value) (t : ByteArray) (w : World) (h : JAt b fn p v w) (ht : JText B v t w) (h0 : ¬ t.size = 0) :
    Calls Try.prog 42 #[.pointer (some ⟨b, 1, none⟩)] w fun e w' => e = .returned (.string t) ∧ Below B w w' ∧ KeptT badS w w' := by
  have hown := ht.1
  obtain ⟨g, cap, cur, rfl, hbg, hg, hnc, hcm, hcs, htake⟩ : ∃ g cap cur, v = .slice (some ⟨g, 0, none⟩) t.size cap ∧ B ≤ g ∧ w.heap[g]? = some (.cells cur 5 (0, 0)) ∧ t.size ≤ cap ∧ cap ≤ maxLen ∧ cur.size = cap * 1 ∧ cur.toList.take (t.size * 1) = Lib.strCells t := by
    rcases hown.2 with ⟨_, hz⟩ | ⟨g, cap, cur, hv, r⟩
    · exact absurd hz h0
    · exact ⟨g, cap, cur, hv, r⟩
  have c1 : w.drew.cell? ⟨b, 2, none⟩ = some (.slice (some ⟨g, 0, none⟩) t.size cap) := h.c2
  have hSD : ∀ W, (Builtin.unsafeSliceData_ #[65] 81 #[.slice (some ⟨g, 0, none⟩) t.size cap]).run Try.prog W = .ok (.pointer (some ⟨g, 0, none⟩)) W := fun W => Lib.run_unsafeSliceData_row (w := W) _ _ _ _ _ (by omega)
  have hUS : (Builtin.unsafeString_ #[81, 3] 9 #[.pointer (some ⟨g, 0, none⟩), .int .i64 t.size]).run Try.prog w.drew = .ok (.string t) (w.drew.freeze ⟨g, 0, none⟩ t.size) := by
    have hl0 : t.data.toList ≠ [] := fun h => h0 (by show t.data.size = 0; rw [← Array.length_toList, h]; rfl)
    have hlen : t.data.toList.length = t.size := by rw [Array.length_toList]; rfl
    have := Lib.run_unsafeString_row w.drew 81 3 9 5 Try.underlying81 Try.cellsByteJ g cur.size (by have hg' : w.drew.heap[g]? = some (.cells cur 5 (0, 0)) := hg; simp [World.shape?, hg']) t.data.toList hl0 (by omega) (by unfold maxLen at hcm; omega) (by
      intro j x hx
      have := hown.cells (g := g) rfl j (.int .u8 x.toNat) (by unfold Lib.strCells; rw [List.getElem?_map, hx]; rfl)
      exact this)
    rw [hlen] at this
    exact this
  have hK : KeptT badS w.drew (w.drew.freeze ⟨g, 0, none⟩ t.size) := freeze_kept (cur := cur) (fz := (0, 0)) hg
  have hJ2 : JAt b fn p (.slice (some ⟨g, 0, none⟩) t.size cap) (w.drew.freeze ⟨g, 0, none⟩ t.size) := JAt.kept (w := w.drew) h hK (by unfold badS; decide)
  have c3 := hJ2.c2
  have HB := Lib.hid (Lib.below_freeze (Below.drew (Below.refl B w)) (p := ⟨g, 0, none⟩) hbg t.size)
  have HK := Lib.hid ((KeptT.below (bad := badS) (Below.drew (Below.refl w.heap.size w))).trans hK)
  clear h ht hown hg hcs htake hK hJ2
  go_enter Try.func42, Try.ntmps42
  go_wp2_with fail
  go_region_held3 (fun w' => w'.cell? ⟨b, 2, none⟩ = some (.slice (some ⟨g, 0, none⟩) t.size cap)) (first | exact c1 | exact c3 | assumption) (fail)
  all_goals (go_wp2; go_ret; exact ⟨rfl, HB.out, HK.out⟩)
end Go.Proofs.Ytijofagmddhmgaa
