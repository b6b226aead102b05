/- The closure of join.All: one event more, its attributes cloned. Conditions: at most 2^20 attributes, 2^22 events. -/
import Derived.Test.YtijofagmddhmgaaJoinClone
import Derived.OneCell
import Derived.Maps.AppendAt
import Derived.Lib.SmallJoins
namespace Go.Proofs.Ytijofagmddhmgaa
open Go.RowKit
def badO : TypeId → Prop := fun t => t = 22 ∨ t = 31
/-- The events told, in a variable of their own at block bo. -/
def OutAt (B bo : Nat) (ms : List Ev) (w : World) : Prop :=
  B ≤ bo ∧ ∃ vo outs, w.heap[bo]? = some (.cells #[vo] 22 (0, 0)) ∧ w.ownsRow B 31 5 vo outs.length (evCells outs) ∧ sameEvs outs ms = true ∧
    ∀ e ∈ outs, e.n = e.ats.length ∧ w.ownsRow B 62 3 (.slice e.A e.n e.c) e.n (atCells e.ats)
/-- Block k is none of those that hold what was told. -/
def OutFg (bo k : Nat) (w : World) : Prop := k < w.heap.size ∧ k ≠ bo ∧ ∃ vo, w.heap[bo]? = some (.cells #[vo] 22 (0, 0)) ∧ vo.ownBlock ≠ some k
theorem sameEv_symm {e f : Ev} (h : sameEv e f = true) : sameEv f e = true := by
  unfold sameEv at *
  have := of_decide_eq_true h
  exact decide_eq_true ⟨this.1.symm, ⟨this.2.1.1.symm, this.2.1.2.symm⟩, this.2.2.1.symm, this.2.2.2.symm⟩
theorem sameEvs_app {l m : List Ev} {e f : Ev} (h : sameEvs l m = true) (he : sameEv e f = true) : sameEvs (l ++ [e]) (m ++ [f]) = true := by
  have hl := ((sameEvs_iff l m).1 h).1
  refine (sameEvs_iff _ _).2 ⟨by simp [hl], fun i x y hx hy => ?_⟩
  rcases Nat.lt_or_ge i l.length with hi | hi
  · rw [List.getElem?_append_left hi] at hx
    rw [List.getElem?_append_left (by omega)] at hy
    exact ((sameEvs_iff l m).1 h).2 i x y hx hy
  · have hi2 : i = l.length := by
      have := (List.getElem?_eq_some_iff.1 hx).1
      simp at this; omega
    subst hi2
    rw [List.getElem?_append_right (Nat.le_refl _)] at hx
    rw [List.getElem?_append_right (by omega)] at hy
    simp at hx
    rw [hl] at hy
    simp at hy
    subst hx hy
    exact he
theorem OutAt.kept {B bo : Nat} {ms : List Ev} {w w' : World} {bad : TypeId → Prop} (h : OutAt B bo ms w) (hk : KeptT bad w w') (h1 : ¬ bad 22) (h2 : ¬ bad 31) (h3 : ¬ bad 62) : OutAt B bo ms w' := by
  obtain ⟨hB, vo, outs, hb, ho, hs, ha⟩ := h
  exact ⟨hB, vo, outs, hk _ _ _ _ hb h1, own_kept ho hk h2, hs, fun e he => ⟨(ha e he).1, own_kept (ha e he).2 hk h3⟩⟩
set_option maxRecDepth 100000 in
set_option maxHeartbeats 4000000 in
theorem allOut_any (B bo : Nat) (ms : List Ev) (e : Ev) (w : World) (hB : B ≤ w.heap.size) (ho : OutAt B bo ms w) (hok : EvOk w e) (hn : e.n ≤ 1048576) (hm : ms.length ≤ 4194304) :
    Calls Try.prog 38 #[.agg #[.int .i64 e.k, .string e.sp, .string e.lo, .slice e.A e.n e.c, .string e.tx], .pointer (some ⟨bo, 0, none⟩)] w fun x w' => x = .returned (.int .i64 0) ∧ OutAt B bo (ms ++ [e]) w' ∧ Below B w w' ∧ KeptT badO w w' ∧ ∀ k, OutFg bo k w → OutFg bo k w' ∧ w'.heap[k]? = w.heap[k]? := by
  obtain ⟨i0, hi0, hz0, hz1, hz2⟩ := info_parts Try.infoEvent
  obtain ⟨W, hW, hB0, c0, c1, c2, c3, c4⟩ := evBox w e 31
  obtain ⟨hBo, vo, outs, hbo, hown, hsame, hats⟩ := ho
  have hlen := ((sameEvs_iff _ _).1 hsame).1
  have hol : outs.length ≤ 4194304 := by omega
  have SM := Lib.hid hsame
  clear hlen hsame
  have hlt := fun g hg => (hown.lt g hg).2
  have hWs : W.heap.size = w.heap.size + 1 := by rw [← hW]; simp
  have hbw := Lib.hid hbo
  have BL1 := Lib.hid hB0
  have hbx : W.heap[w.heap.size]? = some (.cells #[.int .i64 e.k, .string e.sp, .string e.lo, .slice e.A e.n e.c, .string e.tx] 31 (0, 0)) := by rw [← hW]; exact heap_alloc_new w _
  have HK0 : KeptT (fun _ => False) w W := KeptT.below hB0
  have OK := Lib.hid (hok.below hB0)
  have HB := Lib.hid (hB0.mono hB)
  have hbo1 := HK0 _ _ _ _ hbo (fun h => h)
  have hown1 := own_kept hown HK0 (fun h => h)
  have hats1 : ∀ e ∈ outs, e.n = e.ats.length ∧ W.ownsRow B 62 3 (.slice e.A e.n e.c) e.n (atCells e.ats) := fun e he => ⟨(hats e he).1, own_kept (hats e he).2 HK0 (fun h => h)⟩
  have HK1 := Lib.hid (HK0.mono (bad' := badO) fun _ h => h.elim)
  clear hok hB0 hbo hown hats HK0
  go_enter Try.func38, Try.ntmps38
  go_wp2_with fail
  refine (clone_any e.A e.n e.c e.ats W OK.out.1 hn OK.out.2.1).mono ?_
  rintro x w2 ⟨A2, cp2, rfl, hrow, hB2⟩
  have HK2 : KeptT (fun _ => False) W w2 := KeptT.below hB2
  have BL2 := Lib.hid hB2
  have hbx2 := HK2 _ _ _ _ hbx (fun h => h)
  have hbo2 := HK2 _ _ _ _ hbo1 (fun h => h)
  have hown2 := own_kept hown1 HK2 (fun h => h)
  have hats2 : ∀ e ∈ outs, e.n = e.ats.length ∧ w2.ownsRow B 62 3 (.slice e.A e.n e.c) e.n (atCells e.ats) := fun e he => ⟨(hats1 e he).1, own_kept (hats1 e he).2 HK2 (fun h => h)⟩
  have hrow2 := Go.Joins.ownsRow_le hrow (show B ≤ W.heap.size by omega)
  have HB2 := Lib.hid (HB.out.trans (hB2.mono (show B ≤ W.heap.size by omega)))
  have HKa := Lib.hid (HK1.out.trans (HK2.mono (bad' := badO) fun _ h => h.elim))
  have f3 : w2.frozen? ⟨w.heap.size, 3, none⟩ = false := Lib.frozen_of_heap hbx2 3
  have e3 : w2.cell? ⟨w.heap.size, 3, none⟩ = some (.slice e.A e.n e.c) := by rw [Lib.cell_of_heap hbx2]; rfl
  have hbx3 := set_heap hbx2 3 (.slice A2 e.ats.length cp2)
  have hne : w.heap.size ≠ bo := fun h => by rw [← h] at hbo2; rw [hbx2] at hbo2; cases hbo2
  have hbo3 : (w2.setCell ⟨w.heap.size, 3, none⟩ (.slice A2 e.ats.length cp2)).heap[bo]? = _ := (Below.heap_setCell w2 ⟨w.heap.size, 3, none⟩ _ bo (Ne.symm hne)).trans hbo2
  have hK3 : KeptT badO w2 (w2.setCell ⟨w.heap.size, 3, none⟩ (.slice A2 e.ats.length cp2)) := KeptT.set hbx2 (.inr rfl) 3 _
  have hown3 : (w2.setCell ⟨w.heap.size, 3, none⟩ (.slice A2 e.ats.length cp2)).ownsRow B 31 5 vo outs.length (evCells outs) := ownsRow_setCell_other hown2 (fun h => Nat.lt_irrefl _ (hlt _ h)) _
  have nb59 : ¬ badO 62 := by unfold badO; decide
  have hrow3 := own_kept hrow2 hK3 nb59
  have hats3 := fun (f : Ev) (hf : f ∈ outs) => And.intro (hats2 f hf).1 (own_kept (hats2 f hf).2 hK3 nb59)
  have HB3 := Lib.hid (HB2.out.setCell (p := ⟨w.heap.size, 3, none⟩) hB (.slice A2 e.ats.length cp2))
  have HKb := Lib.hid (HKa.out.trans hK3)
  have hs3 : w.heap.size < (w2.setCell ⟨w.heap.size, 3, none⟩ (.slice A2 e.ats.length cp2)).heap.size := by
    rcases Nat.lt_or_ge w.heap.size (w2.setCell ⟨w.heap.size, 3, none⟩ (.slice A2 e.ats.length cp2)).heap.size with h | h
    · exact h
    · rw [Array.getElem?_eq_none h] at hbx3; cases hbx3
  obtain ⟨w3, hw3⟩ : ∃ w3, w2.setCell ⟨w.heap.size, 3, none⟩ (.slice A2 e.ats.length cp2) = w3 := ⟨_, rfl⟩
  rw [hw3] at hbx3 hbo3 hown3 hrow3 hats3 hs3
  have EQ3 : Hid (∀ k, k < w.heap.size → w3.heap[k]? = w.heap[k]?) := by
    intro k hk
    rw [← hw3, Below.heap_setCell w2 ⟨w.heap.size, 3, none⟩ _ k (Nat.ne_of_lt hk), BL2.out.block k (by omega), BL1.out.block k hk]
  have HB3' : Hid (Below B w w3) := by rw [← hw3]; exact HB3.out
  have HKb' : Hid (KeptT badO w w3) := by rw [← hw3]; exact HKb.out
  have kk0 : w3.cell? ⟨w.heap.size, 0, none⟩ = some (.int .i64 e.k) := by rw [Lib.cell_of_heap hbx3]; rfl
  have kk1 : w3.cell? ⟨w.heap.size, 1, none⟩ = some (.string e.sp) := by rw [Lib.cell_of_heap hbx3]; rfl
  have kk2 : w3.cell? ⟨w.heap.size, 2, none⟩ = some (.string e.lo) := by rw [Lib.cell_of_heap hbx3]; rfl
  have kk3 : w3.cell? ⟨w.heap.size, 3, none⟩ = some (.slice A2 e.ats.length cp2) := by rw [Lib.cell_of_heap hbx3]; rfl
  have kk4 : w3.cell? ⟨w.heap.size, 4, none⟩ = some (.string e.tx) := by rw [Lib.cell_of_heap hbx3]; rfl
  have kb : w3.cell? ⟨bo, 0, none⟩ = some vo := by rw [Lib.cell_of_heap hbo3]; rfl
  have hsz3 : B ≤ w3.heap.size := by omega
  obtain ⟨Ao, co, rfl⟩ := ownRow_shapeJ hown3
  clear HB3 HKb HKa HK1 HK2 hbx hbo1 hown1 hats1 hbx2 hbo2 hown2 hats2 hrow hrow2 hB2 hK3 c0 c1 c2 c3 c4 hW hbx3
  go_wp2_with (at_builtin; refine wpList_append_own_at _ rfl (.tmp 8) (.tmp 10) 22 rfl B 31 i0 (.agg #[.int .i64 0, .string ⟨#[]⟩, .string ⟨#[]⟩, .slice none 0 0, .string ⟨#[]⟩]) 5 80 Try.underlying22 hi0 hz0 hz1 hz2 rfl (by decide) _ _ _ rfl (hown3.alloc _) ⟨w3.heap.size, 0, none⟩ 1 1 [.int .i64 e.k, .string e.sp, .string e.lo, .slice A2 e.ats.length cp2, .string e.tx] rfl rfl (evCell_new _ _ _ _ _ _ _) ?k2 ?k3 ?k4 ?k5 ?_)
  case k2 => (first | exact evVals_one _ _ _ _ _ _ _ | exact ⟨rfl, rfl, rfl, rfl⟩)
  case k3 => unfold maxLen; omega
  case k4 => omega
  case k5 => (first | omega | (simp; omega))
  intro v' w4 hown' hgrow _ hblk
  have EQ4 : Hid (∀ k, k < w.heap.size → some k ≠ (Value.slice Ao outs.length co).ownBlock → w4.heap[k]? = w.heap[k]?) := by
    intro k hk hne4
    rw [hgrow.block k (by simp; omega) hne4, ((Below.refl w3.heap.size w3).alloc (Nat.le_refl _) _).block k (by omega)]
    exact EQ3.out k hk
  have BLK := Lib.hid hblk
  have hs4 : w.heap.size ≤ w4.heap.size := by have := hgrow.size; simp at this; omega
  have hown3a := hown3.alloc (.cells #[.int .i64 e.k, .string e.sp, .string e.lo, .slice A2 e.ats.length cp2, .string e.tx] 31)
  have hKc : KeptT badO w3 w4 := (KeptT.below ((Below.refl _ w3).alloc (Nat.le_refl _) _)).trans (KeptT.grown hown3a hgrow (.inr rfl))
  have hbo4 : w4.heap[bo]? = some (.cells #[.slice Ao outs.length co] 22 (0, 0)) := by
    have h3 : KeptT (fun t => t = 31) w3 w4 := (KeptT.below ((Below.refl _ w3).alloc (Nat.le_refl _) _)).trans (KeptT.grown hown3a hgrow rfl)
    exact h3 _ _ _ _ hbo3 (by decide)
  have hrow4 := own_kept hrow3 hKc nb59
  have hats4 := fun (f : Ev) (hf : f ∈ outs) => And.intro (hats3 f hf).1 (own_kept (hats3 f hf).2 hKc nb59)
  have HB4 := Lib.hid ((HB3'.out.alloc hsz3 (.cells #[.int .i64 e.k, .string e.sp, .string e.lo, .slice A2 e.ats.length cp2, .string e.tx] 31)).grown hgrow (by simp; omega) (fun g hg => (hown3a.lt g hg).1))
  have HKd := Lib.hid (HKb'.out.trans hKc)
  have fb : w4.frozen? ⟨bo, 0, none⟩ = false := Lib.frozen_of_heap hbo4 0
  have kb4 : w4.cell? ⟨bo, 0, none⟩ = some (.slice Ao outs.length co) := by rw [Lib.cell_of_heap hbo4]; rfl
  obtain ⟨A5, c5, rfl⟩ := ownRow_shapeJ hown'
  have hK5 : KeptT badO w4 (w4.setCell ⟨bo, 0, none⟩ (.slice A5 (outs.length + 1) c5)) := KeptT.set hbo4 (.inl rfl) 0 _
  have hK5b : KeptT (fun t => t = 22) w4 (w4.setCell ⟨bo, 0, none⟩ (.slice A5 (outs.length + 1) c5)) := KeptT.set (bad := fun t => t = 22) hbo4 rfl 0 _
  have hbo5 := set_heap hbo4 0 (.slice A5 (outs.length + 1) c5)
  have hown5 := own_kept hown' hK5b (by decide)
  have hrow5 := own_kept hrow4 hK5 nb59
  have hats5 := fun (f : Ev) (hf : f ∈ outs) => And.intro (hats4 f hf).1 (own_kept (hats4 f hf).2 hK5 nb59)
  have HB5 := Lib.hid (HB4.out.setCell (p := ⟨bo, 0, none⟩) hBo (.slice A5 (outs.length + 1) c5))
  have HKe := Lib.hid (HKd.out.trans hK5)
  have FIN : Hid (OutAt B bo (ms ++ [e]) (w4.setCell ⟨bo, 0, none⟩ (.slice A5 (outs.length + 1) c5))) := by
    refine ⟨hBo, _, outs ++ [⟨e.k, e.sp, e.lo, A2, e.ats.length, cp2, e.tx, e.ats⟩], hbo5, ?_, sameEvs_app SM.out (by unfold sameEv; simp), fun f hf => ?_⟩
    · rw [List.length_append, evCells_append]; exact hown5
    · rcases List.mem_append.1 hf with hf | hf
      · exact hats5 f hf
      · simp only [List.mem_singleton] at hf
        subst hf
        exact ⟨rfl, hrow5⟩
  have FIN2 : Hid (∀ k, OutFg bo k w → OutFg bo k (w4.setCell ⟨bo, 0, none⟩ (.slice A5 (outs.length + 1) c5)) ∧ (w4.setCell ⟨bo, 0, none⟩ (.slice A5 (outs.length + 1) c5)).heap[k]? = w.heap[k]?) := by
    intro k hk
    obtain ⟨hk1, hk2, vo1, hvo1, hk3⟩ := hk
    have hk4 : (Value.slice Ao outs.length co).ownBlock ≠ some k := by
      rw [hbw.out] at hvo1; simp at hvo1; subst hvo1; exact hk3
    refine ⟨⟨?_, hk2, _, hbo5, ?_⟩, ?_⟩
    · simp; omega
    · show (Value.slice A5 (outs.length + 1) c5).ownBlock ≠ some k
      rcases BLK.out with h | h
      · rw [h]; exact hk4
      · rw [h]; intro heq; have := Option.some.inj heq; (first | omega | (simp at this; omega))
    · rw [Below.heap_setCell w4 ⟨bo, 0, none⟩ _ k hk2]
      exact EQ4.out k hk1 (fun h => hk4 h.symm)
  clear hown3a hKc hbo4 hrow4 hats4 hK5 hK5b hbo5 hown5 hrow5 hats5 hown' hgrow hown3 hrow3 hats3 hbo3
  go_wp2
  go_ret
  exact ⟨rfl, FIN.out, HB5.out, HKe.out, FIN2.out⟩
theorem OutAt.fg {B bo : Nat} {ms : List Ev} {w W : World} (h : OutAt B bo ms w) (hb : Below w.heap.size w W) (hs : w.heap.size < W.heap.size) : OutFg bo w.heap.size W := by
  obtain ⟨_, vo, outs, hbo, ho, _⟩ := h
  have hlt : bo < w.heap.size := by
    rcases Nat.lt_or_ge bo w.heap.size with h' | h'
    · exact h'
    · rw [Array.getElem?_eq_none h'] at hbo; cases hbo
  exact ⟨hs, Nat.ne_of_gt hlt, vo, (hb.block bo hlt).trans hbo, fun heq => Nat.lt_irrefl _ (ho.lt _ heq).2⟩
theorem OutFg.kept {bo k : Nat} {w w' : World} {bad : TypeId → Prop} (h : OutFg bo k w) (hk : KeptT bad w w') (hb : ¬ bad 22) (hs : w.heap.size ≤ w'.heap.size) : OutFg bo k w' := by
  obtain ⟨h1, h2, vo, h3, h4⟩ := h
  exact ⟨Nat.lt_of_lt_of_le h1 hs, h2, vo, hk _ _ _ _ h3 hb, h4⟩
end Go.Proofs.Ytijofagmddhmgaa
