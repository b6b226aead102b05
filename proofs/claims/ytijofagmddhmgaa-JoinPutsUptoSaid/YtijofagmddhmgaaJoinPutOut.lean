/- The closure of JoinPuts: one event more, as long as fewer than n were told. Conditions: at most 2^22 events. -/
import Derived.Test.YtijofagmddhmgaaJoinFlush2
namespace Go.Proofs.Ytijofagmddhmgaa
open Go.RowKit
/-- The events told, in a variable at block bo; the limit in one at block nb. -/
def TellAt (B bo nb q : Nat) (ms : List Ev) (w : World) : Prop :=
  B ≤ bo ∧ w.heap[nb]? = some (.cells #[.int .i64 q] 3 (0, 0)) ∧ ∃ vo, w.heap[bo]? = some (.cells #[vo] 22 (0, 0)) ∧ w.ownsRow B 31 5 vo ms.length (evCells ms)
theorem TellAt.kept {B bo nb q : Nat} {ms : List Ev} {w w' : World} {bad : TypeId → Prop} (h : TellAt B bo nb q ms w) (hk : KeptT bad w w') (h1 : ¬ bad 22) (h2 : ¬ bad 31) (h3 : ¬ bad 3) : TellAt B bo nb q ms w' := by
  obtain ⟨hB, hn, vo, hb, ho⟩ := h
  exact ⟨hB, hk _ _ _ _ hn h3, vo, hk _ _ _ _ hb h1, own_kept ho hk h2⟩
def ansPut (q : Nat) (ms : List Ev) (e : Ev) : Int × List Ev := if q ≤ ms.length then (11, ms) else (0, ms ++ [e])
set_option maxRecDepth 100000 in
set_option maxHeartbeats 4000000 in
theorem putOut_full (B bo nb q : Nat) (ms : List Ev) (e : Ev) (w : World) (hB : B ≤ w.heap.size) (ho : TellAt B bo nb q ms w) (hq : q ≤ ms.length) :
    Calls Try.prog 20 #[.agg #[.int .i64 e.k, .string e.sp, .string e.lo, .slice e.A e.n e.c, .string e.tx], .pointer (some ⟨bo, 0, none⟩), .pointer (some ⟨nb, 0, none⟩)] w fun x w' => x = .returned (.int .i64 11) ∧ TellAt B bo nb q ms w' ∧ Below B w w' ∧ KeptT badO w w' ∧ ∀ k, OutFg bo k w → OutFg bo k w' ∧ w'.heap[k]? = w.heap[k]? := by
  obtain ⟨W, hW, hB0, c0, c1, c2, c3, c4⟩ := evBox w e 31
  have hK : KeptT (fun _ => False) w W := KeptT.below hB0
  have h1 := ho.kept hK (fun h => h) (fun h => h) (fun h => h)
  have H1 := Lib.hid h1
  have HB := Lib.hid (hB0.mono hB)
  have HK := Lib.hid (hK.mono (bad' := badO) fun _ h => h.elim)
  have HF : Hid (∀ k, OutFg bo k w → OutFg bo k W ∧ W.heap[k]? = w.heap[k]?) := fun k hk => ⟨hk.kept hK (fun h => h) hB0.size, hB0.block k hk.1⟩
  obtain ⟨_, hn, vo, hb, hown⟩ := h1
  have kb : W.cell? ⟨bo, 0, none⟩ = some vo := by rw [Lib.cell_of_heap hb]; rfl
  have kn : W.cell? ⟨nb, 0, none⟩ = some (.int .i64 q) := by rw [Lib.cell_of_heap hn]; rfl
  obtain ⟨Ao, co, rfl⟩ := ownRow_shapeJ hown
  have t0 : decide ((q : Int) ≤ (ms.length : Int)) = true := by simpa using hq
  clear ho hK hB0 hb hn hown
  go_enter Try.func20, Try.ntmps20
  go_wp2
  go_ret
  exact ⟨rfl, H1.out, HB.out, HK.out, HF.out⟩
set_option maxRecDepth 100000 in
set_option maxHeartbeats 4000000 in
theorem putOut_more (B bo nb q : Nat) (ms : List Ev) (e : Ev) (w : World) (hB : B ≤ w.heap.size) (ho : TellAt B bo nb q ms w) (hq : ¬ q ≤ ms.length) (hm : ms.length ≤ 4194304) :
    Calls Try.prog 20 #[.agg #[.int .i64 e.k, .string e.sp, .string e.lo, .slice e.A e.n e.c, .string e.tx], .pointer (some ⟨bo, 0, none⟩), .pointer (some ⟨nb, 0, none⟩)] w fun x w' => x = .returned (.int .i64 0) ∧ TellAt B bo nb q (ms ++ [e]) w' ∧ Below B w w' ∧ KeptT badO w w' ∧ ∀ k, OutFg bo k w → OutFg bo k w' ∧ w'.heap[k]? = w.heap[k]? := by
  obtain ⟨i0, hi0, hz0, hz1, hz2⟩ := info_parts Try.infoEvent
  obtain ⟨W, hW, hB0, c0, c1, c2, c3, c4⟩ := evBox w e 31
  have hK : KeptT (fun _ => False) w W := KeptT.below hB0
  have h1 := ho.kept hK (fun h => h) (fun h => h) (fun h => h)
  have HB := Lib.hid (hB0.mono hB)
  have HK := Lib.hid (hK.mono (bad' := badO) fun _ h => h.elim)
  have BL := Lib.hid hB0
  have hsW : w.heap.size ≤ W.heap.size := hB0.size
  obtain ⟨hBo, hn, vo, hb, hown⟩ := h1
  obtain ⟨_, _, vo0, hb0, hown0⟩ := ho
  have hvv : vo0 = vo := by have := hK _ _ _ _ hb0 (fun h => h); rw [hb] at this; simp at this; exact this.symm
  subst hvv
  have HB00 := Lib.hid hb0
  have kb : W.cell? ⟨bo, 0, none⟩ = some vo0 := by rw [Lib.cell_of_heap hb]; rfl
  have kn : W.cell? ⟨nb, 0, none⟩ = some (.int .i64 q) := by rw [Lib.cell_of_heap hn]; rfl
  obtain ⟨Ao, co, rfl⟩ := ownRow_shapeJ hown
  have t0 : ¬ q ≤ ms.length := hq
  have hsz : B ≤ W.heap.size := by omega
  clear hK hB0 hb0 hown0
  go_enter Try.func20, Try.ntmps20
  go_wp2_with (at_builtin; refine wpList_append_own_at _ rfl (.tmp 9) (.tmp 11) 22 rfl B 31 i0 (.agg #[.int .i64 0, .string ⟨#[]⟩, .string ⟨#[]⟩, .slice none 0 0, .string ⟨#[]⟩]) 5 80 Try.underlying22 hi0 hz0 hz1 hz2 rfl (by decide) _ _ _ rfl (hown.alloc _) ⟨W.heap.size, 0, none⟩ 1 1 [.int .i64 e.k, .string e.sp, .string e.lo, .slice e.A e.n e.c, .string e.tx] rfl rfl (evCell_new _ _ _ _ _ _ _) ?k2 ?k3 ?k4 ?k5 ?_)
  case k2 => (first | exact evVals_one _ _ _ _ _ _ _ | exact ⟨rfl, rfl, rfl, rfl⟩)
  case k3 => unfold maxLen; omega
  case k4 => omega
  case k5 => (first | omega | (simp; omega))
  intro v' w4 hown' hgrow _ hblk
  have EQ4 : Hid (∀ k, k < w.heap.size → some k ≠ (Value.slice Ao ms.length co).ownBlock → w4.heap[k]? = w.heap[k]?) := by
    intro k hk hne4
    rw [hgrow.block k (by simp; omega) hne4, ((Below.refl W.heap.size W).alloc (Nat.le_refl _) _).block k (by omega)]
    exact BL.out.block k hk
  have BLK := Lib.hid hblk
  have hs4 : w.heap.size ≤ w4.heap.size := by have := hgrow.size; simp at this; omega
  have hown3a := hown.alloc (.cells #[.int .i64 e.k, .string e.sp, .string e.lo, .slice e.A e.n e.c, .string e.tx] 31)
  have hKc : KeptT badO W w4 := (KeptT.below ((Below.refl _ W).alloc (Nat.le_refl _) _)).trans (KeptT.grown hown3a hgrow (.inr rfl))
  have h3 : KeptT (fun t => t = 31) W w4 := (KeptT.below ((Below.refl _ W).alloc (Nat.le_refl _) _)).trans (KeptT.grown hown3a hgrow rfl)
  have hbo4 := h3 _ _ _ _ hb (by decide)
  have hn4 := h3 _ _ _ _ hn (by decide)
  have HB4 := Lib.hid ((HB.out.alloc hsz (.cells #[.int .i64 e.k, .string e.sp, .string e.lo, .slice e.A e.n e.c, .string e.tx] 31)).grown hgrow (by simp; omega) (fun g hg => (hown3a.lt g hg).1))
  have HKd := Lib.hid (HK.out.trans hKc)
  have fb : w4.frozen? ⟨bo, 0, none⟩ = false := Lib.frozen_of_heap hbo4 0
  have kb4 : w4.cell? ⟨bo, 0, none⟩ = some (.slice Ao ms.length co) := by rw [Lib.cell_of_heap hbo4]; rfl
  obtain ⟨A5, c5, rfl⟩ := ownRow_shapeJ hown'
  have hK5 : KeptT badO w4 (w4.setCell ⟨bo, 0, none⟩ (.slice A5 (ms.length + 1) c5)) := KeptT.set hbo4 (.inl rfl) 0 _
  have hK5b : KeptT (fun t => t = 22) w4 (w4.setCell ⟨bo, 0, none⟩ (.slice A5 (ms.length + 1) c5)) := KeptT.set (bad := fun t => t = 22) hbo4 rfl 0 _
  have hbo5 := set_heap hbo4 0 (.slice A5 (ms.length + 1) c5)
  have hown5 := own_kept hown' hK5b (by decide)
  have hn5 := hK5b _ _ _ _ hn4 (by decide)
  have HB5 := Lib.hid (HB4.out.setCell (p := ⟨bo, 0, none⟩) hBo (.slice A5 (ms.length + 1) c5))
  have HKe := Lib.hid (HKd.out.trans hK5)
  have FIN : Hid (TellAt B bo nb q (ms ++ [e]) (w4.setCell ⟨bo, 0, none⟩ (.slice A5 (ms.length + 1) c5))) := by
    refine ⟨hBo, hn5, _, hbo5, ?_⟩
    rw [List.length_append, evCells_append]; exact hown5
  have FIN2 : Hid (∀ k, OutFg bo k w → OutFg bo k (w4.setCell ⟨bo, 0, none⟩ (.slice A5 (ms.length + 1) c5)) ∧ (w4.setCell ⟨bo, 0, none⟩ (.slice A5 (ms.length + 1) c5)).heap[k]? = w.heap[k]?) := by
    intro k hk
    obtain ⟨hk1, hk2, vo1, hvo1, hk3⟩ := hk
    have hk4 : (Value.slice Ao ms.length co).ownBlock ≠ some k := by
      rw [HB00.out] at hvo1; simp at hvo1; subst hvo1; exact hk3
    refine ⟨⟨?_, hk2, _, hbo5, ?_⟩, ?_⟩
    · simp; omega
    · show (Value.slice A5 (ms.length + 1) c5).ownBlock ≠ some k
      rcases BLK.out with h | h
      · rw [h]; exact hk4
      · rw [h]; intro heq; have := Option.some.inj heq; (first | omega | (simp at this; omega))
    · rw [Below.heap_setCell w4 ⟨bo, 0, none⟩ _ k hk2]
      exact EQ4.out k hk1 (fun h => hk4 h.symm)
  clear hown3a hKc hbo4 hK5 hK5b hbo5 hown5 hown' hgrow hown h3 hn4 hn5 hb hn
  go_wp2
  go_ret
  exact ⟨rfl, FIN.out, HB5.out, HKe.out, FIN2.out⟩
end Go.Proofs.Ytijofagmddhmgaa
