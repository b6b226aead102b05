/- The contract of refs.Cut, a range over the iterator that cuts (printed by gen-refcut.py). Conditions: the tables of chars and of utf hold what the text gives them. -/
import Derived.Test.YtgbdkiphnghojaaDoorRefNames
import Derived.Test.YtgbdkiphnghojaaDoorRefAll
import Derived.Test.YtgbdkiphnghojaaDoorRefCutPlain
import Derived.Test.YtgbdkiphnghojaaDoorRangeSeq
import Derived.Test.YtgbdkiphnghojaaDoorRegionRound
import Derived.Maps.AppendAt
import Derived.Deep.DrawnRows
namespace Go.Proofs.YtgbdkiphnghojaaDoor
open Go.RowKit Go.Shelf Go.Proofs.YtgbdkiphnghojaaDoor.UtfPlain Go.Proofs.YtgbdkiphnghojaaDoor.CharsPlain Go.Proofs.YtgbdkiphnghojaaDoor.NamePlain Go.Proofs.YtgbdkiphnghojaaDoor.RefPlain
attribute [local go_sem] Oper.semAt_some
theorem boxed_below {X Y : World} {B : Nat} {t : TypeId} {v : Value} (h : Boxed X B t v) (hb : Below X.heap.size X Y) : Boxed Y B t v := (hb.block B h.lt).trans h
theorem boxed_putR {X : World} {B l : Nat} {t : TypeId} {v : Value} {o o' : Obj} (h : Boxed X B t v) (hl : X.heap[l]? = some o) (hc : o.isCells = false) : Boxed (X.putObj l o') B t v := by
  refine (World.putObj_heap_other (fun e => ?_)).trans h
  subst e
  rw [show X.heap[B]? = _ from h] at hl; cases hl; cases hc
theorem below_putR {n : Nat} {w X : World} {l : Nat} {o' : Obj} (h : Below n w X) (hn : n ≤ X.heap.size) (hl : n ≤ l) : Below n w (X.putObj l o') := h.trans ((Below.refl n X).grown (grownBy_putObj' X l o') hn (fun k e => by cases e; omega))
theorem KpR_drew (n : Nat) (W : World) : KpR n W W.drew := ⟨⟨rfl, rfl, rfl, Nat.le_refl _, fun _ _ => rfl⟩, fun _ _ _ _ _ h => h⟩
theorem ref_grown {X Y : World} {b base size k : Nat} {cs : Array Value} {t e : TypeId} {v : Value} {xs : List Value} (h : X.heap[b]? = some (.cells cs t (0, 0))) (hte : t ≠ e) (hr : X.ownsRow base e size v k xs) (hg : X.grownBy Y v.ownBlock) : Y.heap[b]? = some (.cells cs t (0, 0)) := by
  refine (hg.block b (Array.getElem?_eq_some_iff.1 h).1 (fun e' => ?_)).trans h
  rcases hr.2 with ⟨rfl, _⟩ | ⟨g, cap, cur, rfl, _, hh, _⟩
  · cases e'
  · obtain rfl : b = g := by simpa [Value.ownBlock] using e'
    rw [h] at hh; cases hh; exact hte rfl
theorem own_lower {w : World} {base base' : Nat} {e : TypeId} {size : Nat} {v : Value} {n : Nat} {xs : List Value} (h : w.ownsRow base e size v n xs) (hb : base' ≤ base) : w.ownsRow base' e size v n xs := by
  refine ⟨h.1, ?_⟩
  rcases h.2 with h2 | ⟨g, cap, cur, hv, hg, r⟩
  · exact .inl h2
  · exact .inr ⟨g, cap, cur, hv, Nat.le_trans hb hg, r⟩
theorem txtCells_snoc (l : List ByteArray) (x : ByteArray) : txtCells (l ++ [x]) = txtCells l ++ [.string x] := by simp [txtCells]
set_option maxRecDepth 100000 in
set_option maxHeartbeats 8000000 in
theorem refCut_any (s : ByteArray) (w : World) (hlen : s.size ≤ 1048576) (hf : FormsAt w) (ht : Tabs w) :
    Calls Tryd.prog 7 #[.string s] w fun e w' => ∃ A c, e = .returned (.slice A (cutsN s).length c) ∧ w'.ownsRow w.heap.size 9 1 (.slice A (cutsN s).length c) (cutsN s).length (txtCells (cutsN s)) ∧ Below w.heap.size w w' := by
  obtain ⟨i0, hi0, hz0, hz1, hz2⟩ := info_parts Tryd.infoStrR
  refine (callsIn_wide (n := 3)).1 ?_
  refine callsIn_of_wp_marks Tryd.func7 rfl trivial ?_ rfl
  simp only [Tryd.ntmps7, List.size_toArray, List.length_cons, List.length_nil, Nat.reduceAdd, Nat.reduceSub, Array.replicate_succ, Array.replicate_zero, List.push_toArray, List.append_toArray, List.nil_append, List.cons_append]
  gi_wp2_with (refine ⟨trivial, ?_⟩; gi_at_call 18; refine (callsIn_wide.2 (each_any _ _)).mono ?_; rintro e w' ⟨rfl, rfl⟩)
  have hr1 : Boxed (((w.alloc (.cells #[.string s] 9)).alloc (.cells #[.slice none 0 0] 23)).alloc (.cells #[.int .i64 0] 3)) (w.heap.size + 1 + 1) 3 (.int .i64 0) := by
    have := Boxed.new ((w.alloc (.cells #[.string s] 9)).alloc (.cells #[.slice none 0 0] 23)) 3 (.int .i64 0)
    simpa using this
  have hr2 : Boxed ((w.alloc (.cells #[.string s] 9)).alloc (.cells #[.slice none 0 0] 23)) (w.heap.size + 1) 23 (.slice none 0 0) := by
    have := Boxed.new (w.alloc (.cells #[.string s] 9)) 23 (.slice none 0 0)
    simpa using this
  have hr3 := Boxed.new w 9 (.string s)
  have hr4 := Boxed.new (((w.alloc (.cells #[.string s] 9)).alloc (.cells #[.slice none 0 0] 23)).alloc (.cells #[.int .i64 0] 3)) 9 (.string s)
  simp only [World.size_alloc] at hr4
  have a1 := hr1.alloc (.cells #[.string s] 9)
  have a2 := (hr2.alloc (.cells #[.int .i64 0] 3)).alloc (.cells #[.string s] 9)
  have a3 := ((hr3.alloc (.cells #[.slice none 0 0] 23)).alloc (.cells #[.int .i64 0] 3)).alloc (.cells #[.string s] 9)
  have hB0 : Below w.heap.size w ((((w.alloc (.cells #[.string s] 9)).alloc (.cells #[.slice none 0 0] 23)).alloc (.cells #[.int .i64 0] 3)).alloc (.cells #[.string s] 9)) := ((((Below.refl _ w).alloc (Nat.le_refl _) _).alloc (by simp) _).alloc (by simp; omega) _).alloc (by simp; omega) _
  have hsz : ((((w.alloc (.cells #[.string s] 9)).alloc (.cells #[.slice none 0 0] 23)).alloc (.cells #[.int .i64 0] 3)).alloc (.cells #[.string s] 9)).heap.size = w.heap.size + 4 := by simp
  clear hr1 hr2 hr3
  have hf4 := hf.below hB0 hf.size
  have ht4 := ht.below hB0 ht.size
  have hc4 := hr4.cell
  clear hr4
  generalize ((((w.alloc (.cells #[.string s] 9)).alloc (.cells #[.slice none 0 0] 23)).alloc (.cells #[.int .i64 0] 3)).alloc (.cells #[.string s] 9)) = W4 at *
  refine range_seq rfl (by omega) (gf := 23) (lb := #[.pointer (some ⟨w.heap.size + 1 + 1 + 1, 0, none⟩)]) rfl trivial (enters_of Tryd.func23 (by kernel_rfl) rfl)
    (encs := refEnc) (Kp := KpR w.heap.size) (refsN (bsOf s)) (fun _ => rfl) KpR.trans (KpR_put (by omega)) ?seq
    (fun pre W => (∃ v, Boxed W (w.heap.size + 1) 23 v ∧ W.ownsRow (w.heap.size + 1) 9 1 v pre.length (txtCells (cutsF s 0 pre))) ∧ Boxed W w.heap.size 9 (.string s) ∧ Boxed W (w.heap.size + 1 + 1) 3 (.int .i64 (lastB 0 pre)) ∧ Below w.heap.size w W)
    ?ib ?ip ⟨⟨_, a2, World.ownsRow_nil _ _ _ _⟩, a3, a1, hB0⟩
    (fun x a' W => ∃ b, W.heap[b]? = some (.cells #[.int .i64 x.a, .int .i64 x.b, .string (strOfNums x.s)] 32 (0, 0)) ∧ a' = { tmps := #[.string s, .pointer (some ⟨w.heap.size, 0, none⟩), .slice none 0 0, .pointer (some ⟨w.heap.size + 1, 0, none⟩), .pointer (some ⟨w.heap.size + 1 + 1, 0, none⟩), .pointer (some ⟨b, 0, none⟩), .string s, .func (.func 23) #[] #[.pointer (some ⟨w.heap.size + 1 + 1 + 1, 0, none⟩)], .agg #[.int .i64 x.a, .int .i64 x.b, .string (strOfNums x.s)], undef, undef, undef, undef, undef, undef, undef, undef, undef, undef, undef, undef, undef, undef, undef, undef], defers := [] })
    ?ap ?assign ?body ?done
  case seq =>
    intro l J W hW hJ hY h0
    refine (each1_in (3 - 1) (by omega) l (w.heap.size + 1 + 1 + 1) w.heap.size s (by omega) ⟨hf.size, ht.size.1, ht.size.2.2⟩ J (fun _ _ => False) hJ (fun pre x W1 hp hj _ => ?_) W (Nat.le_trans (by omega) hW.size) ((hW.cell (p := ⟨w.heap.size + 1 + 1 + 1, 0, none⟩) (by show w.heap.size + 1 + 1 + 1 < _; omega)).trans hc4) (hf4.below hW hf4.size) (ht4.below hW ht4.size) h0).mono ?_
    · obtain ⟨fn, tmps, assign, body, hy, hR⟩ := hY pre x W1 hp hj
      exact ⟨fn, tmps, assign, body, hy, hR.mono fun e W' h => .inl h⟩
    · rintro e W' ⟨hv, h⟩
      refine ⟨hv, ?_⟩
      rcases h with ⟨ys, rfl, h⟩ | ⟨_, _, h⟩
      · exact h
      · exact h.elim
  case ib =>
    rintro q A B ⟨⟨v, h1, h2⟩, h3, h4, h5⟩ hb
    exact ⟨⟨v, boxed_below h1 hb, ownB_below h2 hb⟩, boxed_below h3 hb, boxed_below h4 hb, h5.trans (hb.mono h5.size)⟩
  case ip =>
    rintro q A l o o' ⟨⟨v, h1, h2⟩, h3, h4, h5⟩ hl ho hc
    exact ⟨⟨v, boxed_putR h1 ho hc, ownsRow_putObj h2 o' ho hc⟩, boxed_putR h3 ho hc, boxed_putR h4 ho hc, below_putR h5 h5.size (by omega)⟩
  case ap =>
    rintro x a' A l o o' ⟨b, h2, h3⟩ hl ho hc
    refine ⟨b, (World.putObj_heap_other (fun e => ?_)).trans h2, h3⟩
    subst e
    rw [h2] at ho; cases ho; cases hc
  case assign =>
    intro l pre x W K hI hK
    dsimp only [refEnc]
    gi_wp2
    obtain ⟨⟨v, hv, hrow⟩, h3, h4, hB⟩ := hI
    exact hK _ _ ((KeepsOthers.alloc W _).from _) (KpR.below ((Below.refl _ W).alloc (Nat.le_refl _) _) hB.size) ⟨⟨v, hv.alloc _, hrow.alloc _⟩, h3.alloc _, h4.alloc _, hB.alloc hB.size _⟩ ⟨W.heap.size, heap_alloc_new W _, rfl⟩
  case body =>
    rintro l pre x a' W ⟨rest, hrest⟩ ⟨⟨v, hv, hrow⟩, h3, h4, hB⟩ ⟨b, hb, rfl⟩
    have hch := chain_next s pre rest x (by rw [List.append_cons, hrest]; exact refsN_chain s)
    have hpl : pre.length + 1 ≤ s.size := by
      have h1 := refsN_len (bsOf s)
      rw [← hrest, bsOf_len] at h1
      simp at h1; omega
    have t0 := hch.1
    have t1 : x.a ≤ s.size := by have := hch.2.1; have := hch.2.2.1; omega
    clear hch
    generalize hat : lastB 0 pre = at_ at *
    have b0 : (0 : Int) ≤ (at_ : Int) := by omega
    have b1 : (at_ : Int) ≤ (x.a : Int) := by omega
    have b2 : (x.a : Int) ≤ (s.size : Int) := by omega
    have c0 := hv.cell
    have c1 := h3.cell
    have c2 := h4.cell
    have hbr : W.cell? ⟨b, 0, none⟩ = some (.int .i64 x.a) := by rw [Lib.cell_of_heap hb]; rfl
    have hbr1 : W.cell? ⟨b, 1, none⟩ = some (.int .i64 x.b) := by rw [Lib.cell_of_heap hb]; rfl
    have hbn := hB.size
    refine wpIn_block (wpIn_seq ?_)
    refine region_round (S := fun w' => w'.cell? ⟨w.heap.size, 0, none⟩ = some (.string s) ∧ w'.cell? ⟨w.heap.size + 1 + 1, 0, none⟩ = some (.int .i64 at_) ∧ w'.cell? ⟨b, 0, none⟩ = some (.int .i64 x.a)) (by kernel_rfl) (by rfl) ?hl ⟨c1, c2, hbr⟩ (fun hHeld => ?_)
    case hl => rintro ⟨a, w, h⟩; cases h.1
    refine wpAnyH_take (i := 1) (oi := ({ dst := some 10, op := Op.load 9 (Operand.tmp 1), type := 9, pos := "refs.go:91", after := #[], guard := none } : Oper)) (v := ?_) rfl (by kernel_rfl) (by kernel_rfl) (by kernel_rfl) (fun _ _ _ h => h) (Or.inl ⟨by rfl, ?_⟩) (by assumption) ?_
    rotate_left 1
    · intro w hSw; (try dsimp only at hSw); go_simp; try with_reducible rfl
    (try simp only [Act.put, List.setIfInBounds_toArray, List.set_cons_zero, List.set_cons_succ])
    refine wpAnyH_take (i := 2) (oi := ({ dst := some 11, op := Op.load 3 (Operand.tmp 4), type := 3, pos := "refs.go:91", after := #[], guard := none } : Oper)) (v := ?_) rfl (by kernel_rfl) (by kernel_rfl) (by kernel_rfl) (fun _ _ _ h => h) (Or.inl ⟨by rfl, ?_⟩) (by assumption) ?_
    rotate_left 1
    · intro w hSw; (try dsimp only at hSw); go_simp; try with_reducible rfl
    (try simp only [Act.put, List.setIfInBounds_toArray, List.set_cons_zero, List.set_cons_succ])
    refine wpAnyH_take (i := 3) (oi := ({ dst := some 12, op := Op.fieldAddr 32 (Operand.tmp 5) 0, type := 0, pos := "refs.go:91", after := #[], guard := none } : Oper)) (v := ?_) rfl (by kernel_rfl) (by kernel_rfl) (by kernel_rfl) (fun _ _ _ h => h) (Or.inl ⟨by rfl, ?_⟩) (by assumption) ?_
    rotate_left 1
    · intro w hSw; (try dsimp only at hSw); go_simp; try with_reducible rfl
    (try simp only [Act.put, List.setIfInBounds_toArray, List.set_cons_zero, List.set_cons_succ])
    refine wpAnyH_take (i := 4) (oi := ({ dst := some 13, op := Op.load 3 (Operand.tmp 12), type := 3, pos := "refs.go:91", after := #[{ on := 3, ground := Ground.data }], guard := none } : Oper)) (v := ?_) rfl (by kernel_rfl) (by kernel_rfl) (by kernel_rfl) (fun _ _ _ h => h) (Or.inl ⟨by rfl, ?_⟩) (by assumption) ?_
    rotate_left 1
    · intro w hSw; (try dsimp only at hSw); go_simp; try with_reducible rfl
    (try simp only [Act.put, List.setIfInBounds_toArray, List.set_cons_zero, List.set_cons_succ])
    refine wpAnyH_take (i := 5) (oi := ({ dst := some 14, op := Op.slice 9 (Operand.tmp 10) (some (Operand.tmp 11)) (some (Operand.tmp 13)) none, type := 9, pos := "refs.go:91", after := #[{ on := 1, ground := Ground.data }, { on := 2, ground := Ground.data }, { on := 4, ground := Ground.data }], guard := none } : Oper)) (v := ?_) rfl (by kernel_rfl) (by kernel_rfl) (by kernel_rfl) (fun _ _ _ h => h) (Or.inl ⟨by rfl, ?_⟩) (by assumption) ?_
    rotate_left 1
    · intro w hSw; (try dsimp only at hSw); go_simp; try with_reducible rfl
    (try simp only [Act.put, List.setIfInBounds_toArray, List.set_cons_zero, List.set_cons_succ])
    have hvd : Boxed W.drew (w.heap.size + 1) 23 v := hv
    have hrowd : W.drew.ownsRow (w.heap.size + 1) 9 1 v pre.length (txtCells (cutsF s 0 pre)) := hrow
    have h3d : Boxed W.drew w.heap.size 9 (.string s) := h3
    have h4d : Boxed W.drew (w.heap.size + 1 + 1) 3 (.int .i64 at_) := h4
    have c0d : W.drew.cell? ⟨w.heap.size + 1, 0, none⟩ = some v := c0
    have hblt : b < W.drew.heap.size := (Array.getElem?_eq_some_iff.1 hb).1
    refine wpAnyH_ready (rs := [0, 6]) (by kernel_rfl) (by simp) ?_
    refine AllReadyH.cons (o := _) rfl (fun K hK => ?_) (AllReadyH.cons (o := _) rfl (fun K hK => ?_) AllReadyH.nil)
    · go_simp
      refine hK.out _ _ hHeld (fun _ => ?_)
      clear hK K
      (try simp only [Act.put, List.setIfInBounds_toArray, List.set_cons_zero, List.set_cons_succ])
      refine wpAnyH_ready (rs := [6]) (by kernel_rfl) (by simp) ?_
      refine AllReadyH.cons (o := _) rfl (fun K hK => ?_) AllReadyH.nil
      go_simp
      refine hK.out _ _ ⟨(h3d.alloc _).cell, (h4d.alloc _).cell, (((Below.refl _ W.drew).alloc (Nat.le_refl _) _).cell (p := ⟨b, 0, none⟩) hblt).trans hbr⟩ (fun _ => ?_)
      clear hK K
      (try simp only [Act.put, List.setIfInBounds_toArray, List.set_cons_zero, List.set_cons_succ])
      refine wpAnyH_ready (rs := [7]) (by kernel_rfl) (by simp) ?_
      refine AllReadyH.cons (o := _) rfl (fun K hK => ?_) AllReadyH.nil
      rw [if_pos (by rfl)]; refine wp_append_own _ (.tmp 9) (.tmp 15) 23 (by rfl) (w.heap.size + 1) 9 i0 (.string ⟨#[]⟩) 1 16 Tryd.underlying23 hi0 hz0 hz1 hz2 rfl (by decide) _ _ _ (by rfl) (hrowd.alloc _) ⟨W.heap.size, 0, none⟩ 1 1 [.string (s.extract at_ x.a)] (by rfl) rfl (cell_one_new _ _ _) (by simp [Value.oneCell']) (by unfold maxLen; omega) (by omega) (by simp; omega) ?_
      intro v' w1 hown' hgrow _
      obtain ⟨g', cap', rfl⟩ := ownsRow_succ hown'
      have hg : (W.drew.alloc (.cells #[.string (s.extract at_ x.a)] 9)).grownBy w1 v.ownBlock := hgrow
      obtain ⟨hq1, hq2, hr2, hk2, hb2⟩ := hvd.appended (by decide) hrowd (show w.heap.size + 1 ≤ W.drew.heap.size from h3.lt) (Nat.le_refl _) hown' hg
      have g3 : Boxed w1 w.heap.size 9 (.string s) := (h3d.alloc _).kept hg (fun e => by have := (hrowd.lt _ e.symm).1; omega)
      have g4 : Boxed w1 (w.heap.size + 1 + 1) 3 (.int .i64 at_) := (h4d.alloc _).kept hg (h4d.not_row (by decide) hrowd)
      have hba := (((Below.refl _ W.drew).alloc (Nat.le_refl _) (.cells #[.string (s.extract at_ x.a)] 9)).block b hblt).trans hb
      have gb := ref_grown hba (by decide) (hrowd.alloc _) hg
      have hc3 := hq1.cell; have hf3 := hq1.frozen
      refine hK.out _ _ ⟨g3.cell, g4.cell, by rw [Lib.cell_of_heap gb]; rfl⟩ (fun _ => ?_)
      clear hK K
      (try simp only [Act.put, List.setIfInBounds_toArray])
      refine wpAnyH_ready (rs := [8]) (by kernel_rfl) (by simp) ?_
      refine AllReadyH.cons (o := _) rfl (fun K hK => ?_) AllReadyH.nil
      go_simp
      have k3 := g3.other (B' := w.heap.size + 1) (by omega) (.slice (some ⟨g', 0, none⟩) (pre.length + 1) cap')
      have k4 := g4.other (B' := w.heap.size + 1) (by omega) (.slice (some ⟨g', 0, none⟩) (pre.length + 1) cap')
      have kb : (w1.setCell ⟨w.heap.size + 1, 0, none⟩ (.slice (some ⟨g', 0, none⟩) (pre.length + 1) cap')).heap[b]? = some (.cells #[.int .i64 x.a, .int .i64 x.b, .string (strOfNums x.s)] 32 (0, 0)) := by rw [Below.heap_setCell _ _ _ _ (fun e => by rw [e, show w1.heap[w.heap.size + 1]? = _ from hq1] at gb; cases gb)]; exact gb
      refine hK.out _ _ ⟨k3.cell, k4.cell, by rw [Lib.cell_of_heap kb]; rfl⟩ (fun _ => ?_)
      clear hK K
      refine wpAnyH_done (by kernel_rfl) ?_ _
      have hkp : KpR w.heap.size W (w1.setCell ⟨w.heap.size + 1, 0, none⟩ (.slice (some ⟨g', 0, none⟩) (pre.length + 1) cap')) := (((KpR_drew _ W).trans (KpR.below ((Below.refl _ W.drew).alloc (Nat.le_refl _) _) hB.size)).trans (KpR_grow (hrowd.alloc _) hg (Nat.le_succ _) (by show w.heap.size ≤ (W.drew.alloc _).heap.size; simp; omega))).trans (KpR_box hq1 (Nat.le_succ _))
      have hkb1 : (w1.setCell ⟨w.heap.size + 1, 0, none⟩ (.slice (some ⟨g', 0, none⟩) (pre.length + 1) cap')).cell? ⟨b, 1, none⟩ = some (.int .i64 x.b) := by rw [Lib.cell_of_heap kb]; rfl
      clear hc3 hf3 hq1 g3 g4 gb hba hgrow hg
      generalize w1.setCell ⟨w.heap.size + 1, 0, none⟩ (.slice (some ⟨g', 0, none⟩) (pre.length + 1) cap') = X at *
      have kc := k4.cell; have kf := k4.frozen
      gi_wp2
      refine ⟨trivial, ((KeepsOthers.drew W).trans (hk2.trans (KeepsOthers.setCell _ _ _))).from _, hkp.trans (KpR_box k4 (by omega)), ⟨_, hq2.other (by omega) _, ?_⟩, k3.other (by omega) _, ?_, (hB.trans (KpR_drew w.heap.size W).1).trans ((hb2.mono (Nat.le_succ _)).setCell (p := ⟨w.heap.size + 1 + 1, 0, none⟩) (by show w.heap.size ≤ w.heap.size + 1 + 1; omega) _)⟩
      · rw [cutsF_snoc, hat, txtCells_snoc, List.length_append]; exact hr2.kept (grownBy_setCell' X _ _) (.inr (k4.not_row (by decide) hr2).symm)
      · rw [lastB_snoc]; exact k4.set _
    · go_simp
      refine hK.out _ _ ⟨(h3d.alloc _).cell, (h4d.alloc _).cell, (((Below.refl _ W.drew).alloc (Nat.le_refl _) _).cell (p := ⟨b, 0, none⟩) hblt).trans hbr⟩ (fun _ => ?_)
      clear hK K
      (try simp only [Act.put, List.setIfInBounds_toArray, List.set_cons_zero, List.set_cons_succ])
      refine wpAnyH_ready (rs := [0]) (by kernel_rfl) (by simp) ?_
      refine AllReadyH.cons (o := _) rfl (fun K hK => ?_) AllReadyH.nil
      have c0e : (W.alloc (.cells #[.string (s.extract at_ x.a)] 9)).drew.cell? ⟨w.heap.size + 1, 0, none⟩ = some v := (hv.alloc _).cell
      go_simp
      refine hK.out _ _ ⟨(h3d.alloc _).cell, (h4d.alloc _).cell, (((Below.refl _ W.drew).alloc (Nat.le_refl _) _).cell (p := ⟨b, 0, none⟩) hblt).trans hbr⟩ (fun _ => ?_)
      clear hK K
      (try simp only [Act.put, List.setIfInBounds_toArray, List.set_cons_zero, List.set_cons_succ])
      refine wpAnyH_ready (rs := [7]) (by kernel_rfl) (by simp) ?_
      refine AllReadyH.cons (o := _) rfl (fun K hK => ?_) AllReadyH.nil
      rw [if_pos (by rfl)]; refine wp_append_own _ (.tmp 9) (.tmp 15) 23 (by rfl) (w.heap.size + 1) 9 i0 (.string ⟨#[]⟩) 1 16 Tryd.underlying23 hi0 hz0 hz1 hz2 rfl (by decide) _ _ _ (by rfl) (hrowd.alloc _) ⟨W.heap.size, 0, none⟩ 1 1 [.string (s.extract at_ x.a)] (by rfl) rfl (cell_one_new _ _ _) (by simp [Value.oneCell']) (by unfold maxLen; omega) (by omega) (by simp; omega) ?_
      intro v' w1 hown' hgrow _
      obtain ⟨g', cap', rfl⟩ := ownsRow_succ hown'
      have hg : (W.drew.alloc (.cells #[.string (s.extract at_ x.a)] 9)).grownBy w1 v.ownBlock := hgrow
      obtain ⟨hq1, hq2, hr2, hk2, hb2⟩ := hvd.appended (by decide) hrowd (show w.heap.size + 1 ≤ W.drew.heap.size from h3.lt) (Nat.le_refl _) hown' hg
      have g3 : Boxed w1 w.heap.size 9 (.string s) := (h3d.alloc _).kept hg (fun e => by have := (hrowd.lt _ e.symm).1; omega)
      have g4 : Boxed w1 (w.heap.size + 1 + 1) 3 (.int .i64 at_) := (h4d.alloc _).kept hg (h4d.not_row (by decide) hrowd)
      have hba := (((Below.refl _ W.drew).alloc (Nat.le_refl _) (.cells #[.string (s.extract at_ x.a)] 9)).block b hblt).trans hb
      have gb := ref_grown hba (by decide) (hrowd.alloc _) hg
      have hc3 := hq1.cell; have hf3 := hq1.frozen
      refine hK.out _ _ ⟨g3.cell, g4.cell, by rw [Lib.cell_of_heap gb]; rfl⟩ (fun _ => ?_)
      clear hK K
      (try simp only [Act.put, List.setIfInBounds_toArray])
      refine wpAnyH_ready (rs := [8]) (by kernel_rfl) (by simp) ?_
      refine AllReadyH.cons (o := _) rfl (fun K hK => ?_) AllReadyH.nil
      go_simp
      have k3 := g3.other (B' := w.heap.size + 1) (by omega) (.slice (some ⟨g', 0, none⟩) (pre.length + 1) cap')
      have k4 := g4.other (B' := w.heap.size + 1) (by omega) (.slice (some ⟨g', 0, none⟩) (pre.length + 1) cap')
      have kb : (w1.setCell ⟨w.heap.size + 1, 0, none⟩ (.slice (some ⟨g', 0, none⟩) (pre.length + 1) cap')).heap[b]? = some (.cells #[.int .i64 x.a, .int .i64 x.b, .string (strOfNums x.s)] 32 (0, 0)) := by rw [Below.heap_setCell _ _ _ _ (fun e => by rw [e, show w1.heap[w.heap.size + 1]? = _ from hq1] at gb; cases gb)]; exact gb
      refine hK.out _ _ ⟨k3.cell, k4.cell, by rw [Lib.cell_of_heap kb]; rfl⟩ (fun _ => ?_)
      clear hK K
      refine wpAnyH_done (by kernel_rfl) ?_ _
      have hkp : KpR w.heap.size W (w1.setCell ⟨w.heap.size + 1, 0, none⟩ (.slice (some ⟨g', 0, none⟩) (pre.length + 1) cap')) := (((KpR_drew _ W).trans (KpR.below ((Below.refl _ W.drew).alloc (Nat.le_refl _) _) hB.size)).trans (KpR_grow (hrowd.alloc _) hg (Nat.le_succ _) (by show w.heap.size ≤ (W.drew.alloc _).heap.size; simp; omega))).trans (KpR_box hq1 (Nat.le_succ _))
      have hkb1 : (w1.setCell ⟨w.heap.size + 1, 0, none⟩ (.slice (some ⟨g', 0, none⟩) (pre.length + 1) cap')).cell? ⟨b, 1, none⟩ = some (.int .i64 x.b) := by rw [Lib.cell_of_heap kb]; rfl
      clear hc3 hf3 hq1 g3 g4 gb hba hgrow hg
      generalize w1.setCell ⟨w.heap.size + 1, 0, none⟩ (.slice (some ⟨g', 0, none⟩) (pre.length + 1) cap') = X at *
      have kc := k4.cell; have kf := k4.frozen
      gi_wp2
      refine ⟨trivial, ((KeepsOthers.drew W).trans (hk2.trans (KeepsOthers.setCell _ _ _))).from _, hkp.trans (KpR_box k4 (by omega)), ⟨_, hq2.other (by omega) _, ?_⟩, k3.other (by omega) _, ?_, (hB.trans (KpR_drew w.heap.size W).1).trans ((hb2.mono (Nat.le_succ _)).setCell (p := ⟨w.heap.size + 1 + 1, 0, none⟩) (by show w.heap.size ≤ w.heap.size + 1 + 1; omega) _)⟩
      · rw [cutsF_snoc, hat, txtCells_snoc, List.length_append]; exact hr2.kept (grownBy_setCell' X _ _) (.inr (k4.not_row (by decide) hr2).symm)
      · rw [lastB_snoc]; exact k4.set _
  case done =>
    rintro D W hD ⟨⟨v, hv, hrow⟩, h3, h4, hB⟩ hK
    have hls := chain_last s (refsN (bsOf s)) 0 (Nat.zero_le _) (refsN_chain s)
    generalize hat : lastB 0 (refsN (bsOf s)) = at_ at *
    have b0 : (0 : Int) ≤ (at_ : Int) := by omega
    have b1 : (at_ : Int) ≤ (s.size : Int) := by omega
    have c0 := hv.cell
    have c1 := h3.cell
    have c2 := h4.cell
    gi_wp2_with fail
    refine wpIn_wide.2 (wp_region_noPanic (wp_region_held_drew (S := fun w' => w'.cell? ⟨w.heap.size + 1, 0, none⟩ = some v ∧ w'.cell? ⟨w.heap.size, 0, none⟩ = some (.string s) ∧ w'.cell? ⟨w.heap.size + 1 + 1, 0, none⟩ = some (.int .i64 at_)) (by kernel_rfl) ⟨c0, c1, c2⟩ (fun hHeld => ?_)))
    refine wpAnyH_take (i := 0) (oi := ({ dst := some 19, op := Op.load 23 (Operand.tmp 3), type := 23, pos := "refs.go:94", after := #[], guard := none } : Oper)) (v := ?_) rfl (by kernel_rfl) (by kernel_rfl) (by kernel_rfl) (fun _ _ _ h => h) (Or.inl ⟨by rfl, ?_⟩) (by assumption) ?_
    rotate_left 1
    · intro w hSw; (try dsimp only at hSw); go_simp; try with_reducible rfl
    (try simp only [Act.put, List.setIfInBounds_toArray, List.set_cons_zero, List.set_cons_succ])
    refine wpAnyH_take (i := 1) (oi := ({ dst := some 20, op := Op.load 9 (Operand.tmp 1), type := 9, pos := "refs.go:94", after := #[], guard := none } : Oper)) (v := ?_) rfl (by kernel_rfl) (by kernel_rfl) (by kernel_rfl) (fun _ _ _ h => h) (Or.inl ⟨by rfl, ?_⟩) (by assumption) ?_
    rotate_left 1
    · intro w hSw; (try dsimp only at hSw); go_simp; try with_reducible rfl
    (try simp only [Act.put, List.setIfInBounds_toArray, List.set_cons_zero, List.set_cons_succ])
    refine wpAnyH_take (i := 2) (oi := ({ dst := some 21, op := Op.load 3 (Operand.tmp 4), type := 3, pos := "refs.go:94", after := #[], guard := none } : Oper)) (v := ?_) rfl (by kernel_rfl) (by kernel_rfl) (by kernel_rfl) (fun _ _ _ h => h) (Or.inl ⟨by rfl, ?_⟩) (by assumption) ?_
    rotate_left 1
    · intro w hSw; (try dsimp only at hSw); go_simp; try with_reducible rfl
    (try simp only [Act.put, List.setIfInBounds_toArray, List.set_cons_zero, List.set_cons_succ])
    refine wpAnyH_take (i := 3) (oi := ({ dst := some 22, op := Op.slice 9 (Operand.tmp 20) (some (Operand.tmp 21)) none none, type := 9, pos := "refs.go:94", after := #[{ on := 1, ground := Ground.data }, { on := 2, ground := Ground.data }], guard := none } : Oper)) (v := ?_) rfl (by kernel_rfl) (by kernel_rfl) (by kernel_rfl) (fun _ _ _ h => h) (Or.inl ⟨by rfl, ?_⟩) (by assumption) ?_
    rotate_left 1
    · intro w hSw; (try dsimp only at hSw); go_simp; try with_reducible rfl
    (try simp only [Act.put, List.setIfInBounds_toArray, List.set_cons_zero, List.set_cons_succ])
    have hvd : Boxed W.drew (w.heap.size + 1) 23 v := hv
    have hrowd : W.drew.ownsRow (w.heap.size + 1) 9 1 v (refsN (bsOf s)).length (txtCells (cutsF s 0 (refsN (bsOf s)))) := hrow
    have h3d : Boxed W.drew w.heap.size 9 (.string s) := h3
    have h4d : Boxed W.drew (w.heap.size + 1 + 1) 3 (.int .i64 at_) := h4
    have hKd : W.drew.heap[D]? = some (.deferred (some [])) := hK
    have hbn := hB.size
    have hrl := refsN_len (bsOf s)
    rw [bsOf_len] at hrl
    refine wpAnyH_ready (rs := [4]) (by kernel_rfl) (by simp) ?_
    refine AllReadyH.cons (o := _) rfl (fun K hK2 => ?_) AllReadyH.nil
    go_simp
    refine hK2.out _ _ ⟨(hvd.alloc _).cell, (h3d.alloc _).cell, (h4d.alloc _).cell⟩ (fun _ => ?_)
    clear hK2 K
    (try simp only [Act.put, List.setIfInBounds_toArray, List.set_cons_zero, List.set_cons_succ])
    refine wpAnyH_ready (rs := [5]) (by kernel_rfl) (by simp) ?_
    refine AllReadyH.cons (o := _) rfl (fun K hK2 => ?_) AllReadyH.nil
    rw [if_pos (by rfl)]; refine wp_append_own _ (.tmp 19) (.tmp 23) 23 (by rfl) (w.heap.size + 1) 9 i0 (.string ⟨#[]⟩) 1 16 Tryd.underlying23 hi0 hz0 hz1 hz2 rfl (by decide) _ _ _ (by rfl) (hrowd.alloc _) ⟨W.heap.size, 0, none⟩ 1 1 [.string (s.extract at_ s.size)] (by rfl) rfl (cell_one_new _ _ _) (by simp [Value.oneCell']) (by unfold maxLen; omega) (by omega) (by simp; omega) ?_
    intro v' w1 hown' hgrow _
    have hg : (W.drew.alloc (.cells #[.string (s.extract at_ s.size)] 9)).grownBy w1 v.ownBlock := hgrow
    obtain ⟨g', cap', rfl⟩ := ownsRow_succ hown'
    have g1 : Boxed w1 (w.heap.size + 1) 23 v := (hvd.alloc _).kept hg (hvd.not_row (by decide) hrowd)
    have g3 : Boxed w1 w.heap.size 9 (.string s) := (h3d.alloc _).kept hg (fun e => by have := (hrowd.lt _ e.symm).1; omega)
    have g4 : Boxed w1 (w.heap.size + 1 + 1) 3 (.int .i64 at_) := (h4d.alloc _).kept hg (h4d.not_row (by decide) hrowd)
    have hKw : w1.heap[D]? = some (.deferred (some [])) := by
      refine (hg.block D ?_ ?_).trans ?_
      · have := (Array.getElem?_eq_some_iff.1 hKd).1; simp at this ⊢; omega
      · intro e
        rcases hrowd.2 with ⟨rfl, _⟩ | ⟨g, cap, cur, rfl, _, hh, _⟩
        · cases e
        · obtain rfl : D = g := by simpa [Value.ownBlock] using e
          rw [hKd] at hh; cases hh
      · exact (((Below.refl _ W.drew).alloc (Nat.le_refl _) _).block D (Array.getElem?_eq_some_iff.1 hKd).1).trans hKd
    have hB1 : Below w.heap.size w w1 := (((hB.trans (KpR_drew w.heap.size W).1).alloc (by show w.heap.size ≤ W.drew.heap.size; exact hB.size) _).grown hg (by simp; omega) (fun g hgg => Nat.le_trans (Nat.le_succ _) (hrowd.lt g hgg).1))
    refine hK2.out _ _ ⟨g1.cell, g3.cell, g4.cell⟩ (fun _ => ?_)
    clear hK2 K
    (try simp only [Act.put, List.setIfInBounds_toArray])
    refine wpAnyH_ready (rs := [6]) (by kernel_rfl) (by simp) ?_
    refine AllReadyH.cons (o := _) rfl (fun K hK2 => ?_) AllReadyH.nil
    go_simp
    refine hK2.out _ _ ⟨g1.cell, g3.cell, g4.cell⟩ (fun _ => ?_)
    clear hK2 K
    refine wpAnyH_done (by kernel_rfl) ?_ _
    refine NoPanic.normal ?_
    gi_wp2
    refine ⟨by simp, .inl ⟨_, _, rfl, run_takeDeferred hKw, ?_⟩⟩
    have hcl := cutsN_len s
    refine ⟨.slice (some ⟨g', 0, none⟩) (cutsN s).length cap', ?_, ⟨_, _, rfl, ?_, below_putR hB1 hB1.size (by omega)⟩⟩
    · rw [hcl]; simp [results, Tryd.f7, go_sem]
    · have e1 : txtCells (cutsN s) = txtCells (cutsF s 0 (refsN (bsOf s))) ++ [.string (s.extract at_ s.size)] := by unfold cutsN; rw [txtCells_snoc, hat]
      rw [hcl, e1]
      exact own_lower (ownsRow_putObj hown' _ hKw rfl) (Nat.le_succ _)
end Go.Proofs.YtgbdkiphnghojaaDoor
