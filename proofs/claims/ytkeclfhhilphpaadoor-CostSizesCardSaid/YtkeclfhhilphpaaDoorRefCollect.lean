/- The contract of refs.All: slices.Collect over the iterator. Conditions: the tables of chars and of utf hold what the text gives them. -/
import Derived.Test.YtkeclfhhilphpaaDoorRefNames
import Derived.Test.YtkeclfhhilphpaaDoorRefAll
import Derived.Maps.AppendAt
namespace Go.Proofs.YtkeclfhhilphpaaDoor
open Go.RowKit Go.Shelf Go.Proofs.YtkeclfhhilphpaaDoor.UtfPlain Go.Proofs.YtkeclfhhilphpaaDoor.CharsPlain Go.Proofs.YtkeclfhhilphpaaDoor.NamePlain Go.Proofs.YtkeclfhhilphpaaDoor.RefPlain
attribute [local go_sem] Oper.semAt_some
theorem Tryd.infoRefC : (Tryd.prog.info? 78).map (fun i => (i.zero, i.size, i.bytes)) = some (some (.agg #[.int .i64 0, .int .i64 0, .string ⟨#[]⟩]), 3, 32) := by kernel_rfl
set_option maxRecDepth 100000 in
set_option maxHeartbeats 4000000 in
theorem appendSeq_any (s : ByteArray) (Bs : Nat) (w : World) (hlen : s.size ≤ 1048576) (hBs : Bs < w.heap.size) (hc : w.cell? ⟨Bs, 0, none⟩ = some (.string s)) (hf : FormsAt w) (ht : Tabs w) :
    Calls Tryd.prog 44 #[.slice none 0 0, .func (.func 45) #[] #[.pointer (some ⟨Bs, 0, none⟩)]] w fun e w' => ∃ A c, e = .returned (.slice A (refsN (bsOf s)).length c) ∧ w'.ownsRow w.heap.size 78 3 (.slice A (refsN (bsOf s)).length c) (refsN (bsOf s)).length (refCells (refsN (bsOf s))) ∧ Below w.heap.size w w' := by
  obtain ⟨i0, hi0, hz0, hz1, hz2⟩ := info_parts Tryd.infoRefC
  refine (callsIn_wide (n := 3)).1 ?_
  refine callsIn_of_wp_marks Tryd.func44 rfl trivial ?_ rfl
  simp only [Tryd.ntmps44, List.size_toArray, List.length_cons, List.length_nil, Nat.reduceAdd, Nat.reduceSub, Array.replicate_succ, Array.replicate_zero, List.push_toArray, List.append_toArray, List.nil_append, List.cons_append]
  gi_wp2
  have hB0 : Below w.heap.size w (w.alloc (.cells #[.slice none 0 0] 75)) := (Below.refl _ w).alloc (Nat.le_refl _) _
  have b0 := Boxed.new w 75 (.slice none 0 0)
  have hc1 : (w.alloc (.cells #[.slice none 0 0] 75)).cell? ⟨Bs, 0, none⟩ = some (.string s) := (hB0.cell (p := ⟨Bs, 0, none⟩) hBs).trans hc
  refine wpIn_rangeFunc_ownH rfl (by omega) (gf := 45) (lb := #[.pointer (some ⟨Bs, 0, none⟩)]) rfl trivial (enters_of Tryd.func45 (by kernel_rfl) rfl)
    (each_stops (3 - 1) (by omega) Bs w.heap.size s (by omega) ⟨hf.size, ht.size.1, ht.size.2.2⟩ _ (by simp; omega) (by simp) hc1 (hf.below hB0 hf.size) (ht.below hB0 ht.size))
    KpR.trans (KpR_put (by simp)) (Below.refl _ _) (fun _ => rfl)
    (fun pre W => (∃ v, Boxed W w.heap.size 75 v ∧ W.ownsRow w.heap.size 78 3 v pre.length (refCells pre)) ∧ Below w.heap.size w W)
    (fun _ _ _ => False) ?own ?ownx ⟨⟨_, b0, World.ownsRow_nil _ _ _ _⟩, hB0⟩
    (fun x a' W => ∃ b, W.heap[b]? = some (.cells #[.int .i64 x.a, .int .i64 x.b, .string (strOfNums x.s)] 78 (0, 0)) ∧ a' = { tmps := #[.slice none 0 0, .func (.func 45) #[] #[.pointer (some ⟨Bs, 0, none⟩)], .pointer (some ⟨w.heap.size, 0, none⟩), undef, .slice none 0 0, .pointer (some ⟨b, 0, none⟩), .func (.func 45) #[] #[.pointer (some ⟨Bs, 0, none⟩)], .agg #[.int .i64 x.a, .int .i64 x.b, .string (strOfNums x.s)], undef, undef, undef, undef, undef], defers := [] })
    ?ax ?assign ?body ?done ?stop
  case own => exact OwnFrom.and (Own.from (fun s X Y row hs hg hr => by
    obtain ⟨v, h5, h6⟩ := hs
    exact ⟨v, boxed_keepR h5 hg hr, row_keepR h6 hg hr⟩) _) (ownFrom_below (Nat.le_refl _) (by simp))
  case ownx => exact fun c => fun s X Y row hs hg hr => hs
  case ax => exact fun x a' => Own.from (fun s X Y row hs hg hr => by
    obtain ⟨b, h2, h3⟩ := hs
    refine ⟨b, ?_, h3⟩
    rw [hg.block b (Array.getElem?_eq_some_iff.1 h2).1 (fun e => by obtain ⟨o, ho, hc⟩ := hr b e.symm; rw [h2] at ho; cases ho; cases hc)]
    exact h2) _
  case assign =>
    intro l pre x W K hI hK
    dsimp only [refEnc]
    gi_wp2
    obtain ⟨⟨v, hv, hrow⟩, hB⟩ := hI
    exact hK _ _ ((KeepsOthers.alloc W _).from _) (KpR.below ((Below.refl _ W).alloc (Nat.le_refl _) _) hB.size) ⟨⟨v, hv.alloc _, hrow.alloc _⟩, hB.alloc hB.size _⟩ ⟨W.heap.size, heap_alloc_new W _, rfl⟩
  case body =>
    rintro l pre x a' W _ _ ⟨⟨v, hv, hrow⟩, hB⟩ ⟨b, hb, rfl⟩ hlt
    have hc0 := hv.cell
    have hd0 : W.cell? ⟨b, 0, none⟩ = some (.int .i64 x.a) := by rw [Lib.cell_of_heap hb]; rfl
    have hd1 : W.cell? ⟨b, 1, none⟩ = some (.int .i64 x.b) := by rw [Lib.cell_of_heap hb]; rfl
    have hd2 : W.cell? ⟨b, 2, none⟩ = some (.string (strOfNums x.s)) := by rw [Lib.cell_of_heap hb]; rfl
    have hbn := hB.size
    gi_wp2_with (gi_at_builtin; refine wpListIn_append_own _ rfl _ _ 75 rfl w.heap.size 78 i0 (.agg #[.int .i64 0, .int .i64 0, .string ⟨#[]⟩]) 3 32 Tryd.underlying75 hi0 hz0 hz1 hz2 rfl (by decide) _ _ _ rfl (hrow.alloc _) ⟨W.heap.size, 0, none⟩ 1 1 [.int .i64 x.a, .int .i64 x.b, .string (strOfNums x.s)] rfl rfl (refCell_new _ _ _ _ _) (by simp [Value.oneCell']) (by unfold maxLen; omega) (by omega) (by simp; omega) ?_; intro v' w1 hown' hgrow _; obtain ⟨g', cap', rfl⟩ := ownsRow_succ hown'; obtain ⟨hq1, hq2, hr2, hk2, hb2⟩ := hv.appended (by decide) hrow hB.size (Nat.le_refl _) hown' hgrow; have hc3 := hq1.cell; have hf3 := hq1.frozen)
    have hkp : KpR w.heap.size W (w1.setCell ⟨w.heap.size, 0, none⟩ (.slice (some ⟨g', 0, none⟩) (pre.length + 1) cap')) :=
      ((KpR.below ((Below.refl _ W).alloc (Nat.le_refl _) _) hB.size).trans (KpR_grow (hrow.alloc _) hgrow (Nat.le_refl _) (by simp; omega))).trans (KpR_box hq1 (Nat.le_refl _))
    refine ⟨hk2.from _, hkp, ⟨_, hq2, ?_⟩, hB.trans hb2⟩
    rw [List.length_append, refCells_append]
    exact hr2
  case done =>
    rintro D ys W hD rfl ⟨⟨v, hv, hrow⟩, hB⟩ hK
    have hc0 := hv.cell
    obtain ⟨A2, c2, rfl⟩ := own_shapeR hrow
    gi_wp2
    refine ⟨by simp, .inl ⟨_, _, rfl, run_takeDeferred hK, ?_⟩⟩
    refine ⟨.slice A2 (refsN (bsOf s)).length c2, ?_, ⟨A2, c2, rfl, ownsRow_putObj hrow _ hK rfl, hB.trans (belowK_b (w := w) (Nat.le_refl _) W D _ _ (by simp at hD; omega) hK rfl rfl)⟩⟩
    simp [results, Tryd.f44, go_sem]
  case stop => exact fun D c pre W hD hS hI => hI.elim
theorem refsAll_any (s : ByteArray) (w : World) (hlen : s.size ≤ 1048576) (hf : FormsAt w) (ht : Tabs w) :
    Calls Tryd.prog 29 #[.string s] w fun e w' => ∃ A c, e = .returned (.slice A (refsN (bsOf s)).length c) ∧ RefsAt w' A (refsN (bsOf s)).length (refsN (bsOf s)) ∧ Below w.heap.size w w' := by
  have hB0 : Below w.heap.size w (w.alloc (.cells #[.string s] 9)) := (Below.refl _ w).alloc (Nat.le_refl _) _
  have hb := Boxed.new w 9 (.string s)
  have C := Lib.hid (appendSeq_any s w.heap.size _ hlen (by simp) hb.cell (hf.below hB0 hf.size) (ht.below hB0 ht.size))
  have HB := Lib.hid hB0
  clear hf ht hB0 hb
  go_enter Tryd.func29, Tryd.ntmps29
  go_wp2_with fail
  refine (each_any s w).mono ?_
  rintro e w1 ⟨rfl, rfl⟩
  go_wp2_with fail
  refine (show Calls Tryd.prog 37 _ _ (fun e w' => ∃ A c, e = .returned (.slice A (refsN (bsOf s)).length c) ∧ RefsAt w' A (refsN (bsOf s)).length (refsN (bsOf s)) ∧ Below w.heap.size w w') from ?_).mono ?_
  · go_enter Tryd.func37, Tryd.ntmps37
    go_wp2_with fail
    refine C.out.mono ?_
    rintro e w2 ⟨A, c, rfl, hrow, hB⟩
    have R := Lib.hid (RefsAt.of_own hrow)
    have HB2 := Lib.hid (HB.out.trans (hB.mono HB.out.size))
    clear hrow hB
    go_wp2
    go_ret
    exact ⟨A, c, rfl, R.out, HB2.out⟩
  · rintro e w2 ⟨A, c, rfl, hR, hB⟩
    have R := Lib.hid hR
    have HB2 := Lib.hid hB
    clear hR hB
    go_wp2
    go_ret
    exact ⟨A, c, rfl, R.out, HB2.out⟩
end Go.Proofs.YtkeclfhhilphpaaDoor
