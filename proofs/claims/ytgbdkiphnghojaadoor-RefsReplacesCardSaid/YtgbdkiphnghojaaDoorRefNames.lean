/- The contract of refs.Names, a range over the iterator that collects; the page's example. Conditions: the tables of chars and of utf hold what the text gives them. -/
import Derived.Test.YtgbdkiphnghojaaDoorRefEach
import Derived.Test.YtgbdkiphnghojaaDoorTexts
import Derived.Maps.AppendAt
namespace Go.Proofs.YtgbdkiphnghojaaDoor
open Go.RowKit Go.Shelf Go.Proofs.YtgbdkiphnghojaaDoor.UtfPlain Go.Proofs.YtgbdkiphnghojaaDoor.CharsPlain Go.Proofs.YtgbdkiphnghojaaDoor.NamePlain Go.Proofs.YtgbdkiphnghojaaDoor.RefPlain
attribute [local go_sem] Oper.semAt_some
theorem boxed_keepR {X Y : World} {row : Option Nat} {B : Nat} {t : TypeId} {v : Value} (h : Boxed X B t v) (hg : X.grownBy Y row) (hr : ∀ r, row = some r → ∃ o : Obj, X.heap[r]? = some o ∧ o.isCells = false) : Boxed Y B t v := by
  refine h.kept hg (fun e => ?_)
  obtain ⟨o, ho, hc⟩ := hr B e.symm
  rw [show X.heap[B]? = _ from h] at ho; cases ho; cases hc
theorem row_keepR {X Y : World} {row : Option Nat} {base size k : Nat} {e : TypeId} {v : Value} {xs : List Value} (h : X.ownsRow base e size v k xs) (hg : X.grownBy Y row) (hr : ∀ r, row = some r → ∃ o : Obj, X.heap[r]? = some o ∧ o.isCells = false) : Y.ownsRow base e size v k xs := by
  refine h.kept hg ?_
  rcases h.2 with ⟨rfl, _⟩ | ⟨g, cap, cur, rfl, _, hgb, _⟩
  · exact .inl rfl
  · refine .inr fun e' => ?_
    obtain ⟨o, ho, hc⟩ := hr g (by simpa [Value.ownBlock] using e'.symm)
    rw [hgb] at ho; cases ho; cases hc
theorem KpR_grow {n₀ base size k : Nat} {W w1 : World} {e : TypeId} {v : Value} {xs : List Value} (hrow : W.ownsRow base e size v k xs) (hg : W.grownBy w1 v.ownBlock) (hb : n₀ ≤ base) (hW : n₀ ≤ W.heap.size) : KpR n₀ W w1 := by
  refine ⟨(Below.refl n₀ W).grown hg hW (fun g h => Nat.le_trans hb (hrow.lt g h).1), fun i cur t fz hz hi => ?_⟩
  have hlt : i < W.heap.size := by rcases Nat.lt_or_ge i W.heap.size with h' | h'; exact h'; rw [Array.getElem?_eq_none h'] at hi; cases hi
  rw [hg.block i hlt ?_]
  · exact hi
  · intro heq
    rcases hrow.2 with ⟨rfl, _⟩ | ⟨g, cap, cur', rfl, _, hh, _⟩
    · cases heq
    · cases heq; rw [hi] at hh; cases hh; exact hz rfl
theorem KpR_box {n₀ B : Nat} {W : World} {t : TypeId} {u v : Value} (h : Boxed W B t v) (hB : n₀ ≤ B) : KpR n₀ W (W.setCell ⟨B, 0, none⟩ u) := by
  refine ⟨(Below.refl _ _).setCell (p := ⟨B, 0, none⟩) hB _, fun i cur t' fz hz hi => ?_⟩
  by_cases e : i = B
  · subst e; rw [show W.heap[i]? = _ from h] at hi; cases hi; exact absurd rfl hz
  · rw [Below.heap_setCell W ⟨B, 0, none⟩ u i e]; exact hi
theorem own_shapeR {w : World} {base size n : Nat} {e : TypeId} {v : Value} {xs : List Value} (h : w.ownsRow base e size v n xs) : ∃ A c, v = .slice A n c := by
  rcases h.2 with ⟨h1, h2⟩ | ⟨g, cap, _, h1, _⟩
  · subst h2; exact ⟨_, _, h1⟩
  · exact ⟨_, _, h1⟩
theorem Tryd.infoStrR : (Tryd.prog.info? 9).map (fun i => (i.zero, i.size, i.bytes)) = some (some (.string ⟨#[]⟩), 1, 16) := by kernel_rfl
def nameCells (l : List RefR) : List Value := l.map fun x => .string (strOfNums x.s)
set_option maxRecDepth 100000 in
set_option maxHeartbeats 4000000 in
theorem refNames_any (s : ByteArray) (w : World) (hlen : s.size ≤ 1048576) (hf : FormsAt w) (ht : Tabs w) :
    Calls Tryd.prog 11 #[.string s] w fun e w' => ∃ A c, e = .returned (.slice A (refsN (bsOf s)).length c) ∧ w'.ownsRow w.heap.size 9 1 (.slice A (refsN (bsOf s)).length c) (refsN (bsOf s)).length (nameCells (refsN (bsOf s))) ∧ Below w.heap.size w w' := by
  obtain ⟨i0, hi0, hz0, hz1, hz2⟩ := info_parts Tryd.infoStrR
  refine (callsIn_wide (n := 3)).1 ?_
  refine callsIn_of_wp_marks Tryd.func11 rfl trivial ?_ rfl
  simp only [Tryd.ntmps11, List.size_toArray, List.length_cons, List.length_nil, Nat.reduceAdd, Nat.reduceSub, Array.replicate_succ, Array.replicate_zero, List.push_toArray, List.append_toArray, List.nil_append, List.cons_append]
  gi_wp2_with (refine ⟨trivial, ?_⟩; gi_at_call 18; refine (callsIn_wide.2 (each_any _ _)).mono ?_; rintro e w' ⟨rfl, rfl⟩)
  have hB0 : Below w.heap.size w ((w.alloc (.cells #[.slice none 0 0] 23)).alloc (.cells #[.string s] 9)) := ((Below.refl _ w).alloc (Nat.le_refl _) _).alloc (by simp) _
  have b0 := Boxed.new w 23 (.slice none 0 0)
  have b1 := Boxed.new (w.alloc (.cells #[.slice none 0 0] 23)) 9 (.string s)
  simp only [World.size_alloc] at b1
  refine wpIn_rangeFunc_ownH rfl (by omega) (gf := 23) (lb := #[.pointer (some ⟨w.heap.size + 1, 0, none⟩)]) rfl trivial (enters_of Tryd.func23 (by kernel_rfl) rfl)
    (each_stops (3 - 1) (by omega) (w.heap.size + 1) w.heap.size s (by omega) ⟨hf.size, ht.size.1, ht.size.2.2⟩ _ (by simp) (by simp; omega) b1.cell (hf.below hB0 hf.size) (ht.below hB0 ht.size))
    KpR.trans (KpR_put (by simp; omega)) (Below.refl _ _) (fun _ => rfl)
    (fun pre W => (∃ v, Boxed W w.heap.size 23 v ∧ W.ownsRow w.heap.size 9 1 v pre.length (nameCells pre)) ∧ Below w.heap.size w W)
    (fun _ _ _ => False) ?own ?ownx ⟨⟨_, b0.alloc _, World.ownsRow_nil _ _ _ _⟩, hB0⟩
    (fun x a' W => ∃ b, W.heap[b]? = some (.cells #[.int .i64 x.a, .int .i64 x.b, .string (strOfNums x.s)] 32 (0, 0)) ∧ a' = { tmps := #[.string s, undef, .slice none 0 0, .pointer (some ⟨w.heap.size, 0, none⟩), .pointer (some ⟨b, 0, none⟩), .string s, .func (.func 23) #[] #[.pointer (some ⟨w.heap.size + 1, 0, none⟩)], .agg #[.int .i64 x.a, .int .i64 x.b, .string (strOfNums x.s)], undef, undef, undef, undef, undef, undef], defers := [] })
    ?ax ?assign ?body ?done ?stop
  case own => exact OwnFrom.and (Own.from (fun s X Y row hs hg hr => by
    obtain ⟨v, h5, h6⟩ := hs
    exact ⟨v, boxed_keepR h5 hg hr, row_keepR h6 hg hr⟩) _) (ownFrom_below (Nat.le_refl _) (by simp; omega))
  case ownx => exact fun c => fun s X Y row hs hg hr => hs
  case ax => exact fun x a' => Own.from (fun s X Y row hs hg hr => by
    obtain ⟨b, h2, h3⟩ := hs
    refine ⟨b, ?_, h3⟩
    rw [hg.block b (Array.getElem?_eq_some_iff.1 h2).1 (fun e => by obtain ⟨o, ho, hc⟩ := hr b e.symm; rw [h2] at ho; cases ho; cases hc)]
    exact h2) _
  case assign =>
    intro l pre x W K hI hK
    dsimp only [refEnc]
    gi_wp2
    obtain ⟨⟨v, hv, hrow⟩, hB⟩ := hI
    exact hK _ _ ((KeepsOthers.alloc W _).from _) (KpR.below ((Below.refl _ W).alloc (Nat.le_refl _) _) hB.size) ⟨⟨v, hv.alloc _, hrow.alloc _⟩, hB.alloc hB.size _⟩ ⟨W.heap.size, heap_alloc_new W _, rfl⟩
  case body =>
    rintro l pre x a' W _ _ ⟨⟨v, hv, hrow⟩, hB⟩ ⟨b, hb, rfl⟩ hlt
    have hc0 := hv.cell
    have hc1 : W.cell? ⟨b, 2, none⟩ = some (.string (strOfNums x.s)) := by rw [Lib.cell_of_heap hb]; rfl
    have hbn := hB.size
    gi_wp2_with (gi_at_builtin; refine wpListIn_append_own _ rfl _ _ 23 rfl w.heap.size 9 i0 (.string ⟨#[]⟩) 1 16 Tryd.underlying23 hi0 hz0 hz1 hz2 rfl (by decide) _ _ _ rfl (hrow.alloc _) ⟨W.heap.size, 0, none⟩ 1 1 [.string (strOfNums x.s)] rfl rfl (cell_one_new _ _ _) (by simp [Value.oneCell']) (by unfold maxLen; omega) (by omega) (by simp; omega) ?_; intro v' w1 hown' hgrow _; obtain ⟨g', cap', rfl⟩ := ownsRow_succ hown'; obtain ⟨hq1, hq2, hr2, hk2, hb2⟩ := hv.appended (by decide) hrow hB.size (Nat.le_refl _) hown' hgrow; have hc3 := hq1.cell; have hf3 := hq1.frozen)
    have hkp : KpR w.heap.size W (w1.setCell ⟨w.heap.size, 0, none⟩ (.slice (some ⟨g', 0, none⟩) (pre.length + 1) cap')) :=
      ((KpR.below ((Below.refl _ W).alloc (Nat.le_refl _) _) hB.size).trans (KpR_grow (hrow.alloc _) hgrow (Nat.le_refl _) (by simp; omega))).trans (KpR_box hq1 (Nat.le_refl _))
    refine ⟨hk2.from _, hkp, ⟨_, hq2, ?_⟩, hB.trans hb2⟩
    rw [List.length_append]
    unfold nameCells at hr2 ⊢
    rw [List.map_append]
    exact hr2
  case done =>
    rintro D ys W hD rfl ⟨⟨v, hv, hrow⟩, hB⟩ hK
    have hc0 := hv.cell
    obtain ⟨A2, c2, rfl⟩ := own_shapeR hrow
    gi_wp2
    refine ⟨by simp, .inl ⟨_, _, rfl, run_takeDeferred hK, ?_⟩⟩
    refine ⟨.slice A2 (refsN (bsOf s)).length c2, ?_, ⟨A2, c2, rfl, ownsRow_putObj hrow _ hK rfl, hB.trans (belowK_b (w := w) (Nat.le_refl _) W D _ _ (by simp at hD; omega) hK rfl rfl)⟩⟩
    simp [results, Tryd.f11, go_sem]
  case stop => exact fun D c pre W hD hS hI => hI.elim
end Go.Proofs.YtgbdkiphnghojaaDoor
