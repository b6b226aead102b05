/- The contract of utf.Runes, a range over utf.all that collects. Conditions: the table of forms holds what the text gives it; fewer than 2^40 bytes. -/
import Derived.Test.YtbklopnpehafpaaDoorUtfAll
import Derived.Maps.AppendAt
namespace Go.Proofs.YtbklopnpehafpaaDoor
open Go.RowKit Go.Shelf Go.Proofs.YtbklopnpehafpaaDoor.UtfPlain
attribute [local go_sem] Oper.semAt_some
theorem row_keep {X Y : World} {row : Option Nat} {base size k : Nat} {e : TypeId} {v : Value} {xs : List Value} (h : X.ownsRow base e size v k xs) (hg : X.grownBy Y row) (hr : ∀ r, row = some r → ∃ o : Obj, X.heap[r]? = some o ∧ o.isCells = false) : Y.ownsRow base e size v k xs := by
  refine h.kept hg ?_
  rcases h.2 with ⟨rfl, _⟩ | ⟨g, cap, cur, rfl, _, hgb, _⟩
  · exact .inl rfl
  · refine .inr fun e' => ?_
    obtain ⟨o, ho, hc⟩ := hr g (by simpa [Value.ownBlock] using e'.symm)
    rw [hgb] at ho; cases ho; cases hc
/-- What utf.Runes tells: all characters, and 0; or nil and 5. -/
def TellURunes (p : List Int × Option Nat) (w : World) (e : Ending) (w' : World) : Prop :=
  ∃ A c, e = .returned (.tuple #[.slice A (match p.2 with | some _ => 0 | none => p.1.length) c, .int .i64 (match p.2 with | some _ => 5 | none => 0)]) ∧
    (p.2 = none → w'.ownsRow w.heap.size 3 1 (.slice A p.1.length c) p.1.length (intCells p.1)) ∧ Below w.heap.size w w'
theorem seqOf_all {p : List Int × Option Nat} (h : p.2 = none) : seqOf p = p.1.map fun r => ((r, 0) : Int × Int) := by
  unfold seqOf; rw [h]; simp
set_option maxRecDepth 100000 in
set_option maxHeartbeats 2000000 in
theorem runes_any (A : Option Addr) (len cp : Nat) (xs : List Int) (w : World) (hlen : len ≤ 1099511627776) (hcp : len ≤ cp) (hcp2 : cp ≤ 9223372036854775807) (hb : BytesAt w A len xs) (hf : FormsAt w) :
    Calls Tryd.prog 34 #[.slice A len cp] w (TellURunes (runes xs) w) := by
  obtain ⟨i0, hi0, hz0, hz1, hz2⟩ := info_parts Tryd.infoInt
  refine (callsIn_wide (n := 3)).1 ?_
  refine callsIn_of_wp_marks Tryd.func34 rfl trivial ?_ rfl
  simp only [Tryd.ntmps34, List.size_toArray, List.length_cons, List.length_nil, Nat.reduceAdd, Nat.reduceSub, Array.replicate_succ, Array.replicate_zero, List.push_toArray, List.append_toArray, List.nil_append, List.cons_append]
  gi_wp2_with (refine ⟨trivial, ?_⟩; gi_at_call 49; refine (callsIn_wide.2 (all_any _ _ _ _)).mono ?_; rintro e w' ⟨rfl, rfl⟩)
  have b0 := Boxed.new w 64 (.slice none 0 0)
  have b1 := Boxed.new (w.alloc (.cells #[.slice none 0 0] 64)) 28 (.int .i64 0)
  have b2 := Boxed.new ((w.alloc (.cells #[.slice none 0 0] 64)).alloc (.cells #[.int .i64 0] 28)) 64 (.slice none 0 0)
  have b3 := Boxed.new (((w.alloc (.cells #[.slice none 0 0] 64)).alloc (.cells #[.int .i64 0] 28)).alloc (.cells #[.slice none 0 0] 64)) 22 (.slice A len cp)
  simp only [World.size_alloc] at b1 b2 b3
  have hB0 : Below w.heap.size w ((((w.alloc (.cells #[.slice none 0 0] 64)).alloc (.cells #[.int .i64 0] 28)).alloc (.cells #[.slice none 0 0] 64)).alloc (.cells #[.slice A len cp] 22)) := ((((Below.refl _ w).alloc (Nat.le_refl _) _).alloc (by simp) _).alloc (by simp; omega) _).alloc (by simp; omega) _
  refine wpIn_rangeFunc_ownF rfl (by omega) (gf := 63) (lb := #[.pointer (some ⟨w.heap.size + 1 + 1 + 1, 0, none⟩)]) rfl trivial (enters_of Tryd.func63 (by kernel_rfl) rfl)
    (all_stops (3 - 1) (by omega) (w.heap.size + 1 + 1 + 1) w.heap.size len cp A xs (by omega) hcp hcp2 hf.size _ (by simp) (by simp; omega) b3.cell ((BytesBelow.of_at hb).below hB0) (hf.below hB0 hf.size))
    KpB.trans (KpB_put (by simp; omega) (by simp)) (Below.refl _ _) (fun _ => rfl)
    (fun pre W => ((∀ x ∈ pre, x.2 = 0) ∧ Boxed W w.heap.size 64 (.slice none 0 0) ∧ Boxed W (w.heap.size + 1) 28 (.int .i64 0) ∧ Boxed W (w.heap.size + 1 + 1 + 1) 22 (.slice A len cp) ∧ ∃ v, Boxed W (w.heap.size + 1 + 1) 64 v ∧ W.ownsRow w.heap.size 3 1 v pre.length (pre.map fun x => .int .i64 x.1)) ∧ Below w.heap.size w W)
    (fun c pre W => (c = .ret ∧ (∃ q r e, pre = q ++ [(r, e)] ∧ e ≠ 0 ∧ Boxed W w.heap.size 64 (.slice none 0 0) ∧ Boxed W (w.heap.size + 1) 28 (.int .i64 e))) ∧ Below w.heap.size w W)
    ?own ?ownx ⟨⟨by simp, ((b0.alloc _).alloc _).alloc _, (b1.alloc _).alloc _, b3, _, b2.alloc _, World.ownsRow_nil _ _ _ _⟩, hB0⟩
    (fun x => { tmps := #[.slice A len cp, undef, .pointer (some ⟨w.heap.size, 0, none⟩), .pointer (some ⟨w.heap.size + 1, 0, none⟩), .pointer (some ⟨w.heap.size + 1 + 1, 0, none⟩), .int .i64 x.1, .int .i64 x.2, .slice A len cp, .func (.func 63) #[] #[.pointer (some ⟨w.heap.size + 1 + 1 + 1, 0, none⟩)], .int .i64 x.1, .int .i64 x.2, undef, undef, undef, undef, undef, undef, undef, undef], defers := [] }) ?assign ?body ?done ?stop
  case own => exact OwnFrom.and (Own.from (fun s X Y row hs hg hr => by
    obtain ⟨h1, h2, h3, h4, v, h5, h6⟩ := hs
    exact ⟨h1, boxed_keep h2 hg hr, boxed_keep h3 hg hr, boxed_keep h4 hg hr, v, boxed_keep h5 hg hr, row_keep h6 hg hr⟩) _) (ownFrom_below (Nat.le_refl _) (by simp; omega))
  case ownx => exact fun c => OwnFrom.and (Own.from (fun s X Y row hs hg hr => by
    obtain ⟨h1, q, r, e, h2, h3, h4, h5⟩ := hs
    exact ⟨h1, q, r, e, h2, h3, boxed_keep h4 hg hr, boxed_keep h5 hg hr⟩) _) (ownFrom_below (Nat.le_refl _) (by simp; omega))
  case assign =>
    intro l x W K hK
    dsimp only [evEnc]
    gi_wp2
    exact hK
  case body =>
    rintro l pre x W ⟨⟨hz, hv0, hv1, hv3, v, hv2, hrow⟩, hB⟩ hlt
    have hc0 := hv0.cell
    have hc1 := hv1.cell
    have hf0 := hv0.frozen
    have hf1 := hv1.frozen
    have hc2 := hv2.cell
    obtain ⟨r, e⟩ := x
    by_cases he : e = 0
    · have t1 : (e != 0) = false := by simp [he]
      have E := Lib.hid he
      clear he
      gi_wp2_with (gi_at_builtin; refine wpListIn_append_own _ rfl _ _ 64 rfl w.heap.size 3 i0 (.int .i64 0) 1 8 Tryd.underlying64 hi0 hz0 hz1 hz2 rfl (by decide) _ _ _ rfl (hrow.alloc _) ⟨W.heap.size, 0, none⟩ 1 1 [.int .i64 r] rfl rfl (cell_one_new _ _ _) (by simp [Value.oneCell']) (by unfold maxLen; omega) (by omega) (by have := hB.size; simp; omega) ?_; intro v' w1 hown' hgrow _; obtain ⟨g', cap', rfl⟩ := ownsRow_succ hown'; obtain ⟨hq1, hq2, hr2, hk2, hb2⟩ := hv2.appended (by decide) hrow hB.size (by omega) hown' hgrow; have hc3 := hq1.cell; have hf3 := hq1.frozen)
      have kp : ∀ {B t u}, t ≠ 3 → B ≠ w.heap.size + 1 + 1 → Boxed W B t u → Boxed (w1.setCell ⟨w.heap.size + 1 + 1, 0, none⟩ (.slice (some ⟨g', 0, none⟩) (pre.length + 1) cap')) B t u :=
        fun ht hB h => boxed_far ((h.alloc _).kept hgrow (h.not_row ht hrow)) hB
      have k3 := kp (by decide) (by omega) hv3
      refine ⟨hk2, ⟨hb2, k3.trans hv3.symm⟩, ⟨fun y hy => (List.mem_append.1 hy).elim (hz y) (fun h => by simp at h; rw [h]; exact E.out), kp (by decide) (by omega) hv0, kp (by decide) (by omega) hv1, k3, _, hq2, ?_⟩, hB.trans hb2⟩
      rw [List.length_append, List.map_append]
      exact hr2
    · have t1 : (e != 0) = true := by simp [he]
      have E := Lib.hid he
      clear he
      gi_wp2
      exact ⟨(KeepsOthers.setCell _ _ _).trans (KeepsOthers.setCell _ _ _), ⟨rfl, pre, r, e, rfl, E.out, boxed_far (hv0.set _) (by omega), (boxed_far hv1 (by omega)).set _⟩,
        (hB.setCell (p := ⟨w.heap.size, 0, none⟩) (Nat.le_refl _) _).setCell (p := ⟨w.heap.size + 1, 0, none⟩) (by simp) _⟩
  case done =>
    rintro D ys W hD rfl ⟨⟨hz, hv0, hv1, hv3, v, hv2, hrow⟩, hB⟩ hK
    have hnone := seqOf_clean hz
    have hall := seqOf_all hnone
    have HN := Lib.hid hnone
    rw [hall] at hrow
    have er : ((runes xs).1.map fun r => ((r, 0) : Int × Int)).map (fun x => Value.int .i64 x.1) = intCells (runes xs).1 := by simp [intCells]
    rw [er, List.length_map] at hrow
    clear hnone hz hall er hv3
    obtain ⟨A2, c2, rfl⟩ := ownsRow_shape hrow
    have hc0 := hv0.cell
    have hc1 := hv1.cell
    have hf0 := hv0.frozen
    have hf1 := hv1.frozen
    have hc2 := hv2.cell
    generalize hX : (runes xs).1.length = X at *
    have HX := Lib.hid hX
    clear hX
    gi_wp2
    have hw0 : Boxed ((W.setCell ⟨w.heap.size, 0, none⟩ (.slice A2 X c2)).setCell ⟨w.heap.size + 1, 0, none⟩ (.int .i64 0)) w.heap.size 64 (.slice A2 X c2) := boxed_far (hv0.set _) (by omega)
    have hw1 : Boxed ((W.setCell ⟨w.heap.size, 0, none⟩ (.slice A2 X c2)).setCell ⟨w.heap.size + 1, 0, none⟩ (.int .i64 0)) (w.heap.size + 1) 28 (.int .i64 0) := (boxed_far hv1 (by omega)).set _
    have hK' := ((KeepsOthers.setCell W ⟨w.heap.size, 0, none⟩ (.slice A2 X c2)).trans (KeepsOthers.setCell _ ⟨w.heap.size + 1, 0, none⟩ (.int .i64 0))).same D _ hK rfl
    have hrow2 := (hrow.kept (grownBy_setCell' W w.heap.size (.slice A2 X c2)) (.inr (hv0.not_row (by decide) hrow).symm))
    have hrow3 := (hrow2.kept (grownBy_setCell' _ (w.heap.size + 1) (.int .i64 0)) (.inr ((boxed_far hv1 (by omega)).not_row (by decide) hrow2).symm))
    refine ⟨by simp, .inl ⟨_, _, rfl, run_takeDeferred hK', ?_⟩⟩
    have hk : ∀ {B t v}, Boxed _ B t v → Boxed (World.putObj _ D (.deferred none)) B t v := fun h => boxed_keep h (grownBy_putObj' _ D (.deferred none)) (fun r e => by cases e; exact ⟨_, hK', rfl⟩)
    have hc5 := (hk hw0).cell
    have hc6 := (hk hw1).cell
    refine ⟨.tuple #[.slice A2 X c2, .int .i64 0], ?_, ⟨A2, c2, ?_, ?_, ((hB.setCell (p := ⟨w.heap.size, 0, none⟩) (Nat.le_refl _) _).setCell (p := ⟨w.heap.size + 1, 0, none⟩) (by simp) _).trans (belowK_b (w := w) (Nat.le_refl _) _ D _ _ (by simp at hD; omega) hK' rfl rfl)⟩⟩
    · simp [results, Tryd.f34, go_sem, hc5, hc6]
    · rw [HN.out, ← HX.out]
    · intro _; rw [HX.out]; exact ownsRow_putObj hrow3 _ hK' rfl
  case stop =>
    rintro D c pre W hD hpre ⟨⟨rfl, q, r, e, rfl, he, hv0, hv1⟩, hB⟩ hK
    obtain ⟨i, hi, rfl, rfl⟩ := seqOf_fault hpre he
    have HN := Lib.hid hi
    clear hi he hpre
    gi_wp2
    refine ⟨by simp, .inl ⟨_, _, rfl, run_takeDeferred hK, ?_⟩⟩
    have hk : ∀ {B t v}, Boxed W B t v → Boxed (W.putObj D (.deferred none)) B t v := fun h => boxed_keep h (grownBy_putObj' _ D (.deferred none)) (fun r e => by cases e; exact ⟨_, hK, rfl⟩)
    have hc5 := (hk hv0).cell
    have hc6 := (hk hv1).cell
    refine ⟨.tuple #[.slice none 0 0, .int .i64 5], ?_, ⟨none, 0, ?_, ?_, hB.trans (belowK_b (w := w) (Nat.le_refl _) W D _ _ (by simp at hD; omega) hK rfl rfl)⟩⟩
    · simp [results, Tryd.f34, go_sem, hc5, hc6]
    · rw [HN.out]
    · intro h; rw [HN.out] at h; cases h
end Go.Proofs.YtbklopnpehafpaaDoor
