/- The contract of refs.Replace at the law's closures (printed by gen-refreplace.py). Conditions: at most 500 bytes; the tables of chars and of utf hold what the text gives them. -/
import Derived.Test.YtgbdkiphnghojaaDoorRefCut
import Derived.Test.YtgbdkiphnghojaaDoorRefBy
import Derived.Test.YtgbdkiphnghojaaDoorBuildR
import Derived.Laws.EntriesVeiled
namespace Go.Proofs.YtgbdkiphnghojaaDoor
open Go.RowKit Go.Shelf Go.Proofs.YtgbdkiphnghojaaDoor.UtfPlain Go.Proofs.YtgbdkiphnghojaaDoor.CharsPlain Go.Proofs.YtgbdkiphnghojaaDoor.NamePlain Go.Proofs.YtgbdkiphnghojaaDoor.RefPlain
set_option linter.unusedVariables false
attribute [local go_sem] Oper.semAt_some
theorem eqFuncNil (w : World) (g : Fn) (a b : Array Value) : (binOp .eql 36 (.func g a b) .nilFunc).run Tryd.prog w = .ok (.bool false) w := by
  kernel_rfl
theorem boxed_keepX {b B : Nat} {w w' : World} {t : TypeId} {v : Value} (h : Boxed w B t v) (hx : KeepX b w w') (hne : B ≠ b) (ht : t ≠ 5) : Boxed w' B t v := hx.2 B _ hne (fun cur e => by cases e; exact ht rfl) h
theorem KpR_keepX {n₀ b : Nat} {w w' : World} {cs : Array Value} {t : TypeId} (hx : KeepX b w w') (hb : w.heap[b]? = some (.cells cs t (0, 0))) (hB : Below n₀ w w') : KpR n₀ w w' := ⟨hB, fun k cur t' fz hz hk => hx.2 k _ (fun e => by subst e; rw [hb] at hk; cases hk; exact hz rfl) (fun c e => by cases e; exact hz rfl) hk⟩
theorem keepsFrom_keepX {n₀ b : Nat} {w w' : World} (hx : KeepX b w w') (hb : b < n₀) : KeepsFrom n₀ w w' := ⟨hx.1, fun k o hk ho hc => hx.2 k o (by omega) (fun cur e => by subst e; cases hc) ho⟩
theorem buildAt_heap {T e : TypeId} {B b : Nat} {p : Value} {bs : List Value} {w w' : World} (h : Lib.BuilderAt T e B b p bs w) (hk : ∀ (k : Nat) (o : Obj), o.isCells = true → w.heap[k]? = some o → w'.heap[k]? = some o) : Lib.BuilderAt T e B b p bs w' := by
  obtain ⟨hB, v, hb, hown, hne⟩ := h
  refine ⟨hB, v, hk _ _ rfl hb, ⟨hown.1, ?_⟩, hne⟩
  rcases hown.2 with h2 | ⟨g, cap, cur, hv, hg, hh, r⟩
  · exact .inl h2
  · exact .inr ⟨g, cap, cur, hv, hg, hk _ _ rfl hh, r⟩
theorem build_heap {T e : TypeId} {B b : Nat} {bs : List Value} {w w' : World} (h : Lib.IsBuilder T e B b bs w) (hk : ∀ (k : Nat) (o : Obj), o.isCells = true → w.heap[k]? = some o → w'.heap[k]? = some o) : Lib.IsBuilder T e B b bs w' := h.elim (fun h => .inl (buildAt_heap h hk)) (fun h => .inr (buildAt_heap h hk))
theorem build_below {T e : TypeId} {B b : Nat} {bs : List Value} {w w' : World} (h : Lib.IsBuilder T e B b bs w) (hb : Below w.heap.size w w') : Lib.IsBuilder T e B b bs w' := build_heap h fun k o _ hk => (hb.block k (Array.getElem?_eq_some_iff.1 hk).1).trans hk
theorem build_put {T e : TypeId} {B b l : Nat} {bs : List Value} {w : World} {o o' : Obj} (h : Lib.IsBuilder T e B b bs w) (hl : w.heap[l]? = some o) (hc : o.isCells = false) : Lib.IsBuilder T e B b bs (w.putObj l o') := build_heap h fun k ob hob hk => (World.putObj_heap_other (fun e => by subst e; rw [hl] at hk; cases hk; rw [hc] at hob; cases hob)).trans hk
theorem build_set {T e t : TypeId} {B b k : Nat} {bs : List Value} {w : World} {v u : Value} (h : Lib.IsBuilder T e B b bs w) (hk : Boxed w k t v) (h1 : t ≠ T) (h2 : t ≠ e) : Lib.IsBuilder T e B b bs (w.setCell ⟨k, 0, none⟩ u) := by
  have key : ∀ p, Lib.BuilderAt T e B b p bs w → Lib.BuilderAt T e B b p bs (w.setCell ⟨k, 0, none⟩ u) := by
    rintro p ⟨hB, v', hb, hown, hne⟩
    refine ⟨hB, v', ?_, ⟨hown.1, ?_⟩, hne⟩
    · rw [Below.heap_setCell _ _ _ _ (fun e' => by rw [e', show w.heap[k]? = _ from hk] at hb; cases hb)]; exact hb
    · rcases hown.2 with h2' | ⟨g, cap, cur, hv, hg, hh, r⟩
      · exact .inl h2'
      · refine .inr ⟨g, cap, cur, hv, hg, ?_, r⟩
        rw [Below.heap_setCell _ _ _ _ (fun e' => by rw [e', show w.heap[k]? = _ from hk] at hh; cases hh; exact h2 rfl)]; exact hh
  exact h.elim (fun h => .inl (key _ h)) (fun h => .inr (key _ h))
theorem build_block {T e : TypeId} {B b : Nat} {bs : List Value} {w : World} (h : Lib.IsBuilder T e B b bs w) : ∃ cs, w.heap[b]? = some (.cells cs T (0, 0)) := h.elim (fun ⟨_, v, hb, _⟩ => ⟨_, hb⟩) (fun ⟨_, v, hb, _⟩ => ⟨_, hb⟩)
theorem strCells_app (a b : ByteArray) : Lib.strCells (a ++ b) = Lib.strCells a ++ Lib.strCells b := by unfold Lib.strCells; rw [ByteArray.data_append, Array.toList_append, List.map_append]
def ampF (x : RefR) : ByteArray := ⟨#[38]⟩ ++ strOfNums x.s ++ ⟨#[59]⟩
theorem build_size {T e : TypeId} {B b : Nat} {bs : List Value} {w : World} (h : Lib.IsBuilder T e B b bs w) : b + 1 ≤ w.heap.size := by
  obtain ⟨cs, hcs⟩ := build_block h
  exact (Array.getElem?_eq_some_iff.1 hcs).1
theorem ampF_le (s : ByteArray) (hs : s.size ≤ 500) (y : RefR) (hy : y ∈ refsN (bsOf s)) : (ampF y).size ≤ 502 := by
  obtain ⟨pre, rest, h⟩ := List.append_of_mem hy
  have hc := chain_next s pre rest y (by rw [← h]; exact refsN_chain s)
  have h1 := extr_le s y.a y.b
  rw [hc.2.2.2] at h1
  exact Nat.le_trans h1 (by omega)
set_option maxRecDepth 100000 in
set_option maxHeartbeats 16000000 in
theorem refReplace2_any (s : ByteArray) (w : World) (hs : s.size ≤ 500) (hf : FormsAt w) (ht : Tabs w) :
    Calls Tryd.prog 14 #[.string s, .func (.func 16) #[] #[]] w (RetS (repN ampF s) w) := by
  refine (callsIn_wide (n := 3)).1 ?_
  refine callsIn_of_wp_marks Tryd.func14 rfl trivial ?_ rfl
  simp only [Tryd.ntmps14, List.size_toArray, List.length_cons, List.length_nil, Nat.reduceAdd, Nat.reduceSub, Array.replicate_succ, Array.replicate_zero, List.push_toArray, List.append_toArray, List.nil_append, List.cons_append]
  have hnf := eqFuncNil
  have HF : Hid (∀ y ∈ refsN (bsOf s), (ampF y).size ≤ 502) := fun y hy => ampF_le s hs y hy
  gi_wp2_with (refine ⟨trivial, ?_⟩; gi_at_call 18; refine (callsIn_wide.2 (each_any _ _)).mono ?_; rintro e w' ⟨rfl, rfl⟩)
  have q0 := Boxed.new w 9 (.string s)
  have q1 := Boxed.new (w.alloc (.cells #[.string s] 9)) 36 (.func (.func 16) #[] #[])
  have q2 : Lib.IsBuilder 49 5 (w.heap.size + 1 + 1) (w.heap.size + 1 + 1) [] (((w.alloc (.cells #[.string s] 9)).alloc (.cells #[.func (.func 16) #[] #[]] 36)).alloc (.cells #[.pointer none, .slice none 0 0] 49)) := by
    have := Lib.fresh_isBuilder 49 5 ((w.alloc (.cells #[.string s] 9)).alloc (.cells #[.func (.func 16) #[] #[]] 36))
    simpa using this
  have q3 : Boxed ((((w.alloc (.cells #[.string s] 9)).alloc (.cells #[.func (.func 16) #[] #[]] 36)).alloc (.cells #[.pointer none, .slice none 0 0] 49)).alloc (.cells #[.int .i64 0] 3)) (w.heap.size + 1 + 1 + 1) 3 (.int .i64 0) := by
    have := Boxed.new (((w.alloc (.cells #[.string s] 9)).alloc (.cells #[.func (.func 16) #[] #[]] 36)).alloc (.cells #[.pointer none, .slice none 0 0] 49)) 3 (.int .i64 0)
    simpa using this
  have q4 := Boxed.new ((((w.alloc (.cells #[.string s] 9)).alloc (.cells #[.func (.func 16) #[] #[]] 36)).alloc (.cells #[.pointer none, .slice none 0 0] 49)).alloc (.cells #[.int .i64 0] 3)) 9 (.string s)
  simp only [World.size_alloc] at q1 q4
  have a0 := (((q0.alloc (.cells #[.func (.func 16) #[] #[]] 36)).alloc (.cells #[.pointer none, .slice none 0 0] 49)).alloc (.cells #[.int .i64 0] 3)).alloc (.cells #[.string s] 9)
  have a1 := ((q1.alloc (.cells #[.pointer none, .slice none 0 0] 49)).alloc (.cells #[.int .i64 0] 3)).alloc (.cells #[.string s] 9)
  have a2 := build_below (build_below q2 ((Below.refl _ _).alloc (Nat.le_refl _) (.cells #[.int .i64 0] 3))) ((Below.refl _ _).alloc (Nat.le_refl _) (.cells #[.string s] 9))
  have a3 := q3.alloc (.cells #[.string s] 9)
  have hB0 : Below w.heap.size w (((((w.alloc (.cells #[.string s] 9)).alloc (.cells #[.func (.func 16) #[] #[]] 36)).alloc (.cells #[.pointer none, .slice none 0 0] 49)).alloc (.cells #[.int .i64 0] 3)).alloc (.cells #[.string s] 9)) := (((((Below.refl _ w).alloc (Nat.le_refl _) _).alloc (by simp) _).alloc (by simp; omega) _).alloc (by simp; omega) _).alloc (by simp; omega) _
  have hsz : (((((w.alloc (.cells #[.string s] 9)).alloc (.cells #[.func (.func 16) #[] #[]] 36)).alloc (.cells #[.pointer none, .slice none 0 0] 49)).alloc (.cells #[.int .i64 0] 3)).alloc (.cells #[.string s] 9)).heap.size = w.heap.size + 5 := by simp
  clear q0 q1 q2 q3
  have hf4 := hf.below hB0 hf.size
  have ht4 := ht.below hB0 ht.size
  have hc4 := q4.cell
  clear q4
  generalize (((((w.alloc (.cells #[.string s] 9)).alloc (.cells #[.func (.func 16) #[] #[]] 36)).alloc (.cells #[.pointer none, .slice none 0 0] 49)).alloc (.cells #[.int .i64 0] 3)).alloc (.cells #[.string s] 9)) = W4 at *
  refine range_seq rfl (by omega) (gf := 23) (lb := #[.pointer (some ⟨w.heap.size + 1 + 1 + 1 + 1, 0, none⟩)]) rfl trivial (enters_of Tryd.func23 (by kernel_rfl) rfl)
    (encs := refEnc) (Kp := KpR w.heap.size) (refsN (bsOf s)) (fun _ => rfl) KpR.trans (KpR_put (by omega)) ?seq
    (fun pre W => Boxed W w.heap.size 9 (.string s) ∧ Boxed W (w.heap.size + 1) 36 (.func (.func 16) #[] #[]) ∧ Lib.IsBuilder 49 5 (w.heap.size + 1 + 1) (w.heap.size + 1 + 1) (Lib.strCells (repG ampF s 0 pre)) W ∧ Boxed W (w.heap.size + 1 + 1 + 1) 3 (.int .i64 (lastB 0 pre)) ∧ Below w.heap.size w W)
    ?ib ?ip ⟨a0, a1, a2, a3, hB0⟩
    (fun x a' W => ∃ b, W.heap[b]? = some (.cells #[.int .i64 x.a, .int .i64 x.b, .string (strOfNums x.s)] 32 (0, 0)) ∧ a' = { tmps := #[.string s, .func (.func 16) #[] #[], .pointer (some ⟨w.heap.size, 0, none⟩), .pointer (some ⟨w.heap.size + 1, 0, none⟩), .string ⟨#[]⟩, .pointer (some ⟨w.heap.size + 1 + 1, 0, none⟩), .pointer (some ⟨w.heap.size + 1 + 1 + 1, 0, none⟩), .pointer (some ⟨b, 0, none⟩), undef, undef, .func (.func 16) #[] #[], .bool false, undef, .string s, .func (.func 23) #[] #[.pointer (some ⟨w.heap.size + 1 + 1 + 1 + 1, 0, none⟩)], .agg #[.int .i64 x.a, .int .i64 x.b, .string (strOfNums x.s)], undef, undef, undef, undef, undef, undef, undef, undef, undef, undef, undef, undef, undef, undef, undef, undef, undef, undef, undef, undef, undef, undef, undef, undef, undef, undef, undef, undef, undef, undef], defers := [] })
    ?ap ?assign ?body ?done
  case seq =>
    intro l J W hW hJ hY h0
    refine (each1_in (3 - 1) (by omega) l (w.heap.size + 1 + 1 + 1 + 1) w.heap.size s (by omega) ⟨hf.size, ht.size.1, ht.size.2.2⟩ J (fun _ _ => False) hJ (fun pre x W1 hp hj _ => ?_) W (Nat.le_trans (by omega) hW.size) ((hW.cell (p := ⟨w.heap.size + 1 + 1 + 1 + 1, 0, none⟩) (by show w.heap.size + 1 + 1 + 1 + 1 < _; omega)).trans hc4) (hf4.below hW hf4.size) (ht4.below hW ht4.size) h0).mono ?_
    · obtain ⟨fn, tmps, assign, body, hy, hR⟩ := hY pre x W1 hp hj
      exact ⟨fn, tmps, assign, body, hy, hR.mono fun e W' h => .inl h⟩
    · rintro e W' ⟨hv, h⟩
      refine ⟨hv, ?_⟩
      rcases h with ⟨ys, rfl, h⟩ | ⟨_, _, h⟩
      · exact h
      · exact h.elim
  case ib =>
    rintro q A B ⟨h1, h2, h3, h4, h5⟩ hb
    exact ⟨boxed_below h1 hb, boxed_below h2 hb, build_below h3 hb, boxed_below h4 hb, h5.trans (hb.mono h5.size)⟩
  case ip =>
    rintro q A l o o' ⟨h1, h2, h3, h4, h5⟩ hl ho hc
    exact ⟨boxed_putR h1 ho hc, boxed_putR h2 ho hc, build_put h3 ho hc, boxed_putR h4 ho hc, below_putR h5 h5.size (by omega)⟩
  case ap =>
    rintro x a' A l o o' ⟨b, h2, h3⟩ hl ho hc
    refine ⟨b, (World.putObj_heap_other (fun e => ?_)).trans h2, h3⟩
    subst e
    rw [h2] at ho; cases ho; cases hc
  case assign =>
    intro l pre x W K hI hK
    dsimp only [refEnc]
    gi_wp2
    obtain ⟨h1, h2, h3, h4, hB⟩ := hI
    exact hK _ _ ((KeepsOthers.alloc W _).from _) (KpR.below ((Below.refl _ W).alloc (Nat.le_refl _) _) hB.size) ⟨h1.alloc _, h2.alloc _, build_below h3 ((Below.refl _ _).alloc (Nat.le_refl _) _), h4.alloc _, hB.alloc hB.size _⟩ ⟨W.heap.size, heap_alloc_new W _, rfl⟩
  case body =>
    rintro l pre x a' W ⟨rest, hrest⟩ ⟨h1, h2, h3, h4, hB⟩ ⟨b, hb, rfl⟩
    have hch := chain_next s pre rest x (by rw [List.append_cons, hrest]; exact refsN_chain s)
    have hpl : pre.length + 1 ≤ s.size := by
      have h1 := refsN_len (bsOf s)
      rw [← hrest, bsOf_len] at h1
      simp at h1; omega
    have t0 := hch.1
    have t1 := hch.2.1
    have t2 := hch.2.2.1
    have t3 := congrArg ByteArray.size hch.2.2.2
    have hm : ∀ y ∈ pre ++ [x], y ∈ refsN (bsOf s) := fun y hy => by rw [← hrest]; exact List.mem_append_left _ hy
    have hG := repG_le ampF s hs pre 0 (fun y hy => HF.out y (hm y (List.mem_append_left _ hy)))
    have hFx := HF.out x (hm x (by simp))
    clear hch hm
    have hl : (Lib.strCells (repG ampF s 0 pre)).length ≤ 501 * 1002 := by rw [Lib.strCells_length]; exact Nat.le_trans hG (Nat.mul_le_mul_right _ (by omega))
    have z1 := extr_le s (lastB 0 pre) x.a
    have hS1 := fun w' => run_string_add (P := Tryd.prog) w' (s.extract (lastB 0 pre) x.a) (ampF x) (by omega) (by omega)
    have z2 : (s.extract (lastB 0 pre) x.a ++ ampF x).size ≤ 1002 := by rw [ByteArray.size_append]; omega
    have hN : (strOfNums x.s).size ≤ 1048576 := by
      have e1 := extr_le s x.a x.b
      rw [t3, ByteArray.size_append, ByteArray.size_append] at e1
      omega
    clear hG t3 z1
    have HR : Hid (repG ampF s 0 (pre ++ [x]) = repG ampF s 0 pre ++ (s.extract (lastB 0 pre) x.a ++ ampF x)) := repG_snoc _ _ _ _ _
    have HL : Hid (lastB 0 (pre ++ [x]) = x.b) := lastB_snoc _ _ _
    have c1 := h1.cell
    have c2 := h2.cell
    have c4 := h4.cell
    have hbr0 : W.cell? ⟨b, 0, none⟩ = some (.int .i64 x.a) := by rw [Lib.cell_of_heap hb]; rfl
    have hbr1 : W.cell? ⟨b, 1, none⟩ = some (.int .i64 x.b) := by rw [Lib.cell_of_heap hb]; rfl
    have hbr2 : W.cell? ⟨b, 2, none⟩ = some (.string (strOfNums x.s)) := by rw [Lib.cell_of_heap hb]; rfl
    have hnb : b ≠ w.heap.size + 1 + 1 := fun e => by subst e; obtain ⟨cs, hcs⟩ := build_block h3; rw [hb] at hcs; cases hcs
    generalize lastB 0 pre = p at *
    have b0 : (0 : Int) ≤ (p : Int) := by omega
    have b1 : (p : Int) ≤ (x.a : Int) := by omega
    have b2 : (x.a : Int) ≤ (s.size : Int) := by omega
    have b3 : (x.a : Int) ≤ (x.b : Int) := by omega
    have b4 : (x.b : Int) ≤ (s.size : Int) := by omega
    have b5 : (0 : Int) ≤ (x.a : Int) := by omega
    have hBz := hB.size
    gi_wp2_with (first | (refine ⟨trivial, ?_⟩; gi_at_call 16; refine (CallsIn.inRound _ (callsIn_wide.2 (by2_any _ _ (by omega)))).mono ?_; rintro e w' ⟨rfl, rfl⟩) | (refine ⟨trivial, ?_⟩; gi_at_call 21; refine (CallsIn.inRound _ (callsIn_wide.2 (writeString_any _ _ _ _ _ h3 (Nat.le_trans (Nat.add_le_add hl z2) (by decide)) (Nat.le_trans (by omega) (build_size h3))))).mono ?_; rintro e w1 ⟨rfl, hba, hbb, hx⟩; have g1 := boxed_keepX h1 hx (by omega) (by decide); have g2 := boxed_keepX h2 hx (by omega) (by decide); have g4 := boxed_keepX h4 hx (by omega) (by decide); have gb := hx.2 b _ hnb (fun cur e => by cases e) hb; have gb1 : w1.cell? ⟨b, 1, none⟩ = some (.int .i64 x.b) := (by rw [Lib.cell_of_heap gb]; rfl); have gc4 := g4.cell; have gf4 := g4.frozen))
    refine ⟨(keepsFrom_keepX hx (by omega)).trans ((KeepsOthers.setCell _ _ _).from _), (KpR_keepX hx (build_block h3).choose_spec (hbb.mono (by omega))).trans (KpR_box g4 (by omega)), g1.other (by omega) _, g2.other (by omega) _, ?_, ?_, (hB.trans (hbb.mono (by omega))).setCell (p := ⟨w.heap.size + 1 + 1 + 1, 0, none⟩) (by show w.heap.size ≤ w.heap.size + 1 + 1 + 1; omega) _⟩
    · rw [HR.out, strCells_app]; exact build_set (.inr hba) g4 (by decide) (by decide)
    · rw [HL.out]; exact g4.set _
  case done =>
    rintro D W hD ⟨h1, h2, h3, h4, hB⟩ hK
    have hls := chain_last s (refsN (bsOf s)) 0 (Nat.zero_le _) (refsN_chain s)
    have hrl := refsN_len (bsOf s)
    rw [bsOf_len] at hrl
    have hG := repG_le ampF s hs (refsN (bsOf s)) 0 HF.out
    have hG2 : (repG ampF s 0 (refsN (bsOf s))).size ≤ 501 * 1002 := Nat.le_trans hG (Nat.mul_le_mul_right _ (by omega))
    have HRN : Hid (repN ampF s = repG ampF s 0 (refsN (bsOf s)) ++ s.extract (lastB 0 (refsN (bsOf s))) s.size) := rfl
    clear hG HF
    generalize repG ampF s 0 (refsN (bsOf s)) = t at *
    generalize lastB 0 (refsN (bsOf s)) = p at *
    have z1 := extr_le s p s.size
    have hS1 := fun w' => run_string_add (P := Tryd.prog) w' t (s.extract p s.size) (by omega) (by omega)
    have b0 : (0 : Int) ≤ (p : Int) := by omega
    have b1 : (p : Int) ≤ (s.size : Int) := by omega
    clear z1
    have c1 := h1.cell
    have c4 := h4.cell
    gi_wp2_with fail
    refine wpIn_wide.2 (wp_region_noPanic (wp_region_held_drew (S := fun w' => w'.cell? ⟨w.heap.size, 0, none⟩ = some (.string s) ∧ w'.cell? ⟨w.heap.size + 1 + 1 + 1, 0, none⟩ = some (.int .i64 p)) (by kernel_rfl) ⟨c1, c4⟩ (fun hHeld => ?_)))
    refine wpAnyH_take (i := 1) (oi := ({ dst := some 42, op := Op.load 9 (Operand.tmp 2), type := 9, pos := "refs.go:83", after := #[], guard := none } : Oper)) (v := ?_) rfl (by kernel_rfl) (by kernel_rfl) (by kernel_rfl) (fun _ _ _ h => h) (Or.inl ⟨by rfl, ?_⟩) (by assumption) ?_
    rotate_left 1
    · intro w hSw; (try dsimp only at hSw); go_simp; try with_reducible rfl
    (try simp only [Act.put, List.setIfInBounds_toArray, List.set_cons_zero, List.set_cons_succ])
    refine wpAnyH_take (i := 2) (oi := ({ dst := some 43, op := Op.load 3 (Operand.tmp 6), type := 3, pos := "refs.go:83", after := #[], guard := none } : Oper)) (v := ?_) rfl (by kernel_rfl) (by kernel_rfl) (by kernel_rfl) (fun _ _ _ h => h) (Or.inl ⟨by rfl, ?_⟩) (by assumption) ?_
    rotate_left 1
    · intro w hSw; (try dsimp only at hSw); go_simp; try with_reducible rfl
    (try simp only [Act.put, List.setIfInBounds_toArray, List.set_cons_zero, List.set_cons_succ])
    refine wpAnyH_take (i := 3) (oi := ({ dst := some 44, op := Op.slice 9 (Operand.tmp 42) (some (Operand.tmp 43)) none none, type := 9, pos := "refs.go:83", after := #[{ on := 1, ground := Ground.data }, { on := 2, ground := Ground.data }], guard := none } : Oper)) (v := ?_) rfl (by kernel_rfl) (by kernel_rfl) (by kernel_rfl) (fun _ _ _ h => h) (Or.inl ⟨by rfl, ?_⟩) (by assumption) ?_
    rotate_left 1
    · intro w hSw; (try dsimp only at hSw); go_simp; try with_reducible rfl
    (try simp only [Act.put, List.setIfInBounds_toArray, List.set_cons_zero, List.set_cons_succ])
    refine wpAnyH_ready (rs := [0]) (by kernel_rfl) (by simp) ?_
    refine AllReadyH.cons (o := _) rfl (fun K hK2 => ?_) AllReadyH.nil
    go_simp
    have q3 : Lib.IsBuilder 49 5 (w.heap.size + 1 + 1) (w.heap.size + 1 + 1) (Lib.byteCells t.data.toList) W.drew := build_heap h3 (fun _ _ _ h => h)
    have hbn := hB.size
    refine (Tryd.Builder_String_any_k _ _ _ _ (Lib.IsBuilderF.of q3) (Nat.le_trans (Nat.le_succ _) (build_size q3))).mono ?_
    rintro e w1 ⟨rfl, hF1, hB1, hO⟩
    have g1 : Boxed w1 w.heap.size 9 (.string s) := hO _ _ h1 (fun e => by injection e with e; omega) (fun c fz e => by cases e)
    have g4 : Boxed w1 (w.heap.size + 1 + 1 + 1) 3 (.int .i64 p) := hO _ _ h4 (fun e => by injection e with e; omega) (fun c fz e => by cases e)
    have gD : w1.heap[D]? = some (.deferred (some [])) := hO _ _ hK (fun e => by injection e with e; omega) (fun c fz e => by cases e)
    dsimp only
    refine hK2.out _ _ ⟨g1.cell, g4.cell⟩ (fun _ => ?_)
    clear hK2 K
    (try simp only [Act.put, List.setIfInBounds_toArray, List.set_cons_zero, List.set_cons_succ])
    have hB2 : Below w.heap.size w w1 := (hB.trans (KpR_drew w.heap.size W).1).trans (hB1.mono (by omega))
    refine wpAnyH_ready (rs := [4]) (by kernel_rfl) (by simp) ?_
    refine AllReadyH.cons (o := _) rfl (fun K hK2 => ?_) AllReadyH.nil
    go_simp
    refine hK2.out _ _ ⟨g1.cell, g4.cell⟩ (fun _ => ?_)
    clear hK2 K
    (try simp only [Act.put, List.setIfInBounds_toArray, List.set_cons_zero, List.set_cons_succ])
    refine wpAnyH_ready (rs := [5]) (by kernel_rfl) (by simp) ?_
    refine AllReadyH.cons (o := _) rfl (fun K hK2 => ?_) AllReadyH.nil
    go_simp
    refine hK2.out _ _ ⟨g1.cell, g4.cell⟩ (fun _ => ?_)
    clear hK2 K
    refine wpAnyH_done (by kernel_rfl) ?_ _
    refine NoPanic.normal ?_
    gi_wp2
    refine ⟨by simp, .inl ⟨_, _, rfl, run_takeDeferred gD, ?_⟩⟩
    refine ⟨.string (repN ampF s), ?_, rfl, below_putR hB2 hB2.size (by omega)⟩
    rw [HRN.out]
    simp [results, Tryd.f14, go_sem]
set_option maxRecDepth 100000 in
set_option maxHeartbeats 16000000 in
theorem refReplace1_any (s name by_ : ByteArray) (bn bb : Nat) (w : World) (hs : s.size ≤ 500) (hby : by_.size ≤ 500) (hbn : bn < w.heap.size) (hbb : bb < w.heap.size) (hcn : w.cell? ⟨bn, 0, none⟩ = some (.string name)) (hcb : w.cell? ⟨bb, 0, none⟩ = some (.string by_)) (hf : FormsAt w) (ht : Tabs w) :
    Calls Tryd.prog 14 #[.string s, .func (.func 15) #[] #[.pointer (some ⟨bn, 0, none⟩), .pointer (some ⟨bb, 0, none⟩)]] w (RetS (repN (byF s name by_) s) w) := by
  refine (callsIn_wide (n := 3)).1 ?_
  refine callsIn_of_wp_marks Tryd.func14 rfl trivial ?_ rfl
  simp only [Tryd.ntmps14, List.size_toArray, List.length_cons, List.length_nil, Nat.reduceAdd, Nat.reduceSub, Array.replicate_succ, Array.replicate_zero, List.push_toArray, List.append_toArray, List.nil_append, List.cons_append]
  have hnf := eqFuncNil
  have HF : Hid (∀ y ∈ refsN (bsOf s), ((byF s name by_) y).size ≤ 502) := fun y hy => Nat.le_trans (byF_le s name by_ y hs hby) (by omega)
  have D1 : Hid (∀ W : World, Below w.heap.size w W → W.cell? ⟨bn, 0, none⟩ = some (.string name)) := fun W h => (h.cell (p := ⟨bn, 0, none⟩) hbn).trans hcn
  have D2 : Hid (∀ W : World, Below w.heap.size w W → W.cell? ⟨bb, 0, none⟩ = some (.string by_)) := fun W h => (h.cell (p := ⟨bb, 0, none⟩) hbb).trans hcb
  clear hcn hcb
  gi_wp2_with (refine ⟨trivial, ?_⟩; gi_at_call 18; refine (callsIn_wide.2 (each_any _ _)).mono ?_; rintro e w' ⟨rfl, rfl⟩)
  have q0 := Boxed.new w 9 (.string s)
  have q1 := Boxed.new (w.alloc (.cells #[.string s] 9)) 36 (.func (.func 15) #[] #[.pointer (some ⟨bn, 0, none⟩), .pointer (some ⟨bb, 0, none⟩)])
  have q2 : Lib.IsBuilder 49 5 (w.heap.size + 1 + 1) (w.heap.size + 1 + 1) [] (((w.alloc (.cells #[.string s] 9)).alloc (.cells #[.func (.func 15) #[] #[.pointer (some ⟨bn, 0, none⟩), .pointer (some ⟨bb, 0, none⟩)]] 36)).alloc (.cells #[.pointer none, .slice none 0 0] 49)) := by
    have := Lib.fresh_isBuilder 49 5 ((w.alloc (.cells #[.string s] 9)).alloc (.cells #[.func (.func 15) #[] #[.pointer (some ⟨bn, 0, none⟩), .pointer (some ⟨bb, 0, none⟩)]] 36))
    simpa using this
  have q3 : Boxed ((((w.alloc (.cells #[.string s] 9)).alloc (.cells #[.func (.func 15) #[] #[.pointer (some ⟨bn, 0, none⟩), .pointer (some ⟨bb, 0, none⟩)]] 36)).alloc (.cells #[.pointer none, .slice none 0 0] 49)).alloc (.cells #[.int .i64 0] 3)) (w.heap.size + 1 + 1 + 1) 3 (.int .i64 0) := by
    have := Boxed.new (((w.alloc (.cells #[.string s] 9)).alloc (.cells #[.func (.func 15) #[] #[.pointer (some ⟨bn, 0, none⟩), .pointer (some ⟨bb, 0, none⟩)]] 36)).alloc (.cells #[.pointer none, .slice none 0 0] 49)) 3 (.int .i64 0)
    simpa using this
  have q4 := Boxed.new ((((w.alloc (.cells #[.string s] 9)).alloc (.cells #[.func (.func 15) #[] #[.pointer (some ⟨bn, 0, none⟩), .pointer (some ⟨bb, 0, none⟩)]] 36)).alloc (.cells #[.pointer none, .slice none 0 0] 49)).alloc (.cells #[.int .i64 0] 3)) 9 (.string s)
  simp only [World.size_alloc] at q1 q4
  have a0 := (((q0.alloc (.cells #[.func (.func 15) #[] #[.pointer (some ⟨bn, 0, none⟩), .pointer (some ⟨bb, 0, none⟩)]] 36)).alloc (.cells #[.pointer none, .slice none 0 0] 49)).alloc (.cells #[.int .i64 0] 3)).alloc (.cells #[.string s] 9)
  have a1 := ((q1.alloc (.cells #[.pointer none, .slice none 0 0] 49)).alloc (.cells #[.int .i64 0] 3)).alloc (.cells #[.string s] 9)
  have a2 := build_below (build_below q2 ((Below.refl _ _).alloc (Nat.le_refl _) (.cells #[.int .i64 0] 3))) ((Below.refl _ _).alloc (Nat.le_refl _) (.cells #[.string s] 9))
  have a3 := q3.alloc (.cells #[.string s] 9)
  have hB0 : Below w.heap.size w (((((w.alloc (.cells #[.string s] 9)).alloc (.cells #[.func (.func 15) #[] #[.pointer (some ⟨bn, 0, none⟩), .pointer (some ⟨bb, 0, none⟩)]] 36)).alloc (.cells #[.pointer none, .slice none 0 0] 49)).alloc (.cells #[.int .i64 0] 3)).alloc (.cells #[.string s] 9)) := (((((Below.refl _ w).alloc (Nat.le_refl _) _).alloc (by simp) _).alloc (by simp; omega) _).alloc (by simp; omega) _).alloc (by simp; omega) _
  have hsz : (((((w.alloc (.cells #[.string s] 9)).alloc (.cells #[.func (.func 15) #[] #[.pointer (some ⟨bn, 0, none⟩), .pointer (some ⟨bb, 0, none⟩)]] 36)).alloc (.cells #[.pointer none, .slice none 0 0] 49)).alloc (.cells #[.int .i64 0] 3)).alloc (.cells #[.string s] 9)).heap.size = w.heap.size + 5 := by simp
  clear q0 q1 q2 q3
  have hf4 := hf.below hB0 hf.size
  have ht4 := ht.below hB0 ht.size
  have hc4 := q4.cell
  clear q4
  generalize (((((w.alloc (.cells #[.string s] 9)).alloc (.cells #[.func (.func 15) #[] #[.pointer (some ⟨bn, 0, none⟩), .pointer (some ⟨bb, 0, none⟩)]] 36)).alloc (.cells #[.pointer none, .slice none 0 0] 49)).alloc (.cells #[.int .i64 0] 3)).alloc (.cells #[.string s] 9)) = W4 at *
  refine range_seq rfl (by omega) (gf := 23) (lb := #[.pointer (some ⟨w.heap.size + 1 + 1 + 1 + 1, 0, none⟩)]) rfl trivial (enters_of Tryd.func23 (by kernel_rfl) rfl)
    (encs := refEnc) (Kp := KpR w.heap.size) (refsN (bsOf s)) (fun _ => rfl) KpR.trans (KpR_put (by omega)) ?seq
    (fun pre W => Boxed W w.heap.size 9 (.string s) ∧ Boxed W (w.heap.size + 1) 36 (.func (.func 15) #[] #[.pointer (some ⟨bn, 0, none⟩), .pointer (some ⟨bb, 0, none⟩)]) ∧ Lib.IsBuilder 49 5 (w.heap.size + 1 + 1) (w.heap.size + 1 + 1) (Lib.strCells (repG (byF s name by_) s 0 pre)) W ∧ Boxed W (w.heap.size + 1 + 1 + 1) 3 (.int .i64 (lastB 0 pre)) ∧ Below w.heap.size w W)
    ?ib ?ip ⟨a0, a1, a2, a3, hB0⟩
    (fun x a' W => ∃ b, W.heap[b]? = some (.cells #[.int .i64 x.a, .int .i64 x.b, .string (strOfNums x.s)] 32 (0, 0)) ∧ a' = { tmps := #[.string s, .func (.func 15) #[] #[.pointer (some ⟨bn, 0, none⟩), .pointer (some ⟨bb, 0, none⟩)], .pointer (some ⟨w.heap.size, 0, none⟩), .pointer (some ⟨w.heap.size + 1, 0, none⟩), .string ⟨#[]⟩, .pointer (some ⟨w.heap.size + 1 + 1, 0, none⟩), .pointer (some ⟨w.heap.size + 1 + 1 + 1, 0, none⟩), .pointer (some ⟨b, 0, none⟩), undef, undef, .func (.func 15) #[] #[.pointer (some ⟨bn, 0, none⟩), .pointer (some ⟨bb, 0, none⟩)], .bool false, undef, .string s, .func (.func 23) #[] #[.pointer (some ⟨w.heap.size + 1 + 1 + 1 + 1, 0, none⟩)], .agg #[.int .i64 x.a, .int .i64 x.b, .string (strOfNums x.s)], undef, undef, undef, undef, undef, undef, undef, undef, undef, undef, undef, undef, undef, undef, undef, undef, undef, undef, undef, undef, undef, undef, undef, undef, undef, undef, undef, undef, undef, undef], defers := [] })
    ?ap ?assign ?body ?done
  case seq =>
    intro l J W hW hJ hY h0
    refine (each1_in (3 - 1) (by omega) l (w.heap.size + 1 + 1 + 1 + 1) w.heap.size s (by omega) ⟨hf.size, ht.size.1, ht.size.2.2⟩ J (fun _ _ => False) hJ (fun pre x W1 hp hj _ => ?_) W (Nat.le_trans (by omega) hW.size) ((hW.cell (p := ⟨w.heap.size + 1 + 1 + 1 + 1, 0, none⟩) (by show w.heap.size + 1 + 1 + 1 + 1 < _; omega)).trans hc4) (hf4.below hW hf4.size) (ht4.below hW ht4.size) h0).mono ?_
    · obtain ⟨fn, tmps, assign, body, hy, hR⟩ := hY pre x W1 hp hj
      exact ⟨fn, tmps, assign, body, hy, hR.mono fun e W' h => .inl h⟩
    · rintro e W' ⟨hv, h⟩
      refine ⟨hv, ?_⟩
      rcases h with ⟨ys, rfl, h⟩ | ⟨_, _, h⟩
      · exact h
      · exact h.elim
  case ib =>
    rintro q A B ⟨h1, h2, h3, h4, h5⟩ hb
    exact ⟨boxed_below h1 hb, boxed_below h2 hb, build_below h3 hb, boxed_below h4 hb, h5.trans (hb.mono h5.size)⟩
  case ip =>
    rintro q A l o o' ⟨h1, h2, h3, h4, h5⟩ hl ho hc
    exact ⟨boxed_putR h1 ho hc, boxed_putR h2 ho hc, build_put h3 ho hc, boxed_putR h4 ho hc, below_putR h5 h5.size (by omega)⟩
  case ap =>
    rintro x a' A l o o' ⟨b, h2, h3⟩ hl ho hc
    refine ⟨b, (World.putObj_heap_other (fun e => ?_)).trans h2, h3⟩
    subst e
    rw [h2] at ho; cases ho; cases hc
  case assign =>
    intro l pre x W K hI hK
    dsimp only [refEnc]
    gi_wp2
    obtain ⟨h1, h2, h3, h4, hB⟩ := hI
    exact hK _ _ ((KeepsOthers.alloc W _).from _) (KpR.below ((Below.refl _ W).alloc (Nat.le_refl _) _) hB.size) ⟨h1.alloc _, h2.alloc _, build_below h3 ((Below.refl _ _).alloc (Nat.le_refl _) _), h4.alloc _, hB.alloc hB.size _⟩ ⟨W.heap.size, heap_alloc_new W _, rfl⟩
  case body =>
    rintro l pre x a' W ⟨rest, hrest⟩ ⟨h1, h2, h3, h4, hB⟩ ⟨b, hb, rfl⟩
    have hch := chain_next s pre rest x (by rw [List.append_cons, hrest]; exact refsN_chain s)
    have hpl : pre.length + 1 ≤ s.size := by
      have h1 := refsN_len (bsOf s)
      rw [← hrest, bsOf_len] at h1
      simp at h1; omega
    have t0 := hch.1
    have t1 := hch.2.1
    have t2 := hch.2.2.1
    have t3 := congrArg ByteArray.size hch.2.2.2
    have hm : ∀ y ∈ pre ++ [x], y ∈ refsN (bsOf s) := fun y hy => by rw [← hrest]; exact List.mem_append_left _ hy
    have hG := repG_le (byF s name by_) s hs pre 0 (fun y hy => HF.out y (hm y (List.mem_append_left _ hy)))
    have hFx := HF.out x (hm x (by simp))
    clear hch hm
    have hl : (Lib.strCells (repG (byF s name by_) s 0 pre)).length ≤ 501 * 1002 := by rw [Lib.strCells_length]; exact Nat.le_trans hG (Nat.mul_le_mul_right _ (by omega))
    have z1 := extr_le s (lastB 0 pre) x.a
    have hS1 := fun w' => run_string_add (P := Tryd.prog) w' (s.extract (lastB 0 pre) x.a) ((byF s name by_) x) (by omega) (by omega)
    have z2 : (s.extract (lastB 0 pre) x.a ++ (byF s name by_) x).size ≤ 1002 := by rw [ByteArray.size_append]; omega
    have hN : (strOfNums x.s).size ≤ 1048576 := by
      have e1 := extr_le s x.a x.b
      rw [t3, ByteArray.size_append, ByteArray.size_append] at e1
      omega
    clear hG t3 z1
    have HR : Hid (repG (byF s name by_) s 0 (pre ++ [x]) = repG (byF s name by_) s 0 pre ++ (s.extract (lastB 0 pre) x.a ++ (byF s name by_) x)) := repG_snoc _ _ _ _ _
    have HL : Hid (lastB 0 (pre ++ [x]) = x.b) := lastB_snoc _ _ _
    have c1 := h1.cell
    have c2 := h2.cell
    have c4 := h4.cell
    have hbr0 : W.cell? ⟨b, 0, none⟩ = some (.int .i64 x.a) := by rw [Lib.cell_of_heap hb]; rfl
    have hbr1 : W.cell? ⟨b, 1, none⟩ = some (.int .i64 x.b) := by rw [Lib.cell_of_heap hb]; rfl
    have hbr2 : W.cell? ⟨b, 2, none⟩ = some (.string (strOfNums x.s)) := by rw [Lib.cell_of_heap hb]; rfl
    have hnb : b ≠ w.heap.size + 1 + 1 := fun e => by subst e; obtain ⟨cs, hcs⟩ := build_block h3; rw [hb] at hcs; cases hcs
    generalize lastB 0 pre = p at *
    have b0 : (0 : Int) ≤ (p : Int) := by omega
    have b1 : (p : Int) ≤ (x.a : Int) := by omega
    have b2 : (x.a : Int) ≤ (s.size : Int) := by omega
    have b3 : (x.a : Int) ≤ (x.b : Int) := by omega
    have b4 : (x.b : Int) ≤ (s.size : Int) := by omega
    have b5 : (0 : Int) ≤ (x.a : Int) := by omega
    have hBz := hB.size
    have HBC : ∀ u d, (if strOfNums x.s = name then by_ else noS) = u → decide (strOfNums x.s = name) = d → Hid (∀ W, Below w.heap.size w W → Calls Tryd.prog 15 #[.string (strOfNums x.s), .pointer (some ⟨bn, 0, none⟩), .pointer (some ⟨bb, 0, none⟩)] W fun e w' => e = .returned (.tuple #[.string u, .bool d]) ∧ w' = W) := fun u d e1 e2 W hB => by
      have := by1_any bn bb (strOfNums x.s) name by_ W (D1.out _ hB) (D2.out _ hB)
      rw [e1, e2] at this
      exact this
    by_cases hn : strOfNums x.s = name
    · have hby1 : byF s name by_ x = by_ := if_pos hn
      rw [hby1] at hS1 z2 HR
      have hd : decide (strOfNums x.s = name) = true := decide_eq_true hn
      have HB1 := HBC by_ true (if_pos hn) hd
      clear HBC hd hby1 hn HF D1 D2 hby hs hf ht hnf hbb hbn a0 a1 a2 a3 hf4 ht4 hc4 hB0
      gi_wp2_with fail
      refine ⟨trivial, ?_⟩; gi_at_call 15; refine (CallsIn.inRound _ (callsIn_wide.2 (HB1.out W hB))).mono ?_; rintro e w' ⟨rfl, rfl⟩
      gi_wp2_with fail
      refine ⟨trivial, ?_⟩; gi_at_call 21; refine (CallsIn.inRound _ (callsIn_wide.2 (writeString_any _ _ _ _ _ h3 (Nat.le_trans (Nat.add_le_add hl z2) (by decide)) (Nat.le_trans (by omega) (build_size h3))))).mono ?_; rintro e w1 ⟨rfl, hba, hbb, hx⟩; have g1 := boxed_keepX h1 hx (by omega) (by decide); have g2 := boxed_keepX h2 hx (by omega) (by decide); have g4 := boxed_keepX h4 hx (by omega) (by decide); have gb := hx.2 b _ hnb (fun cur e => by cases e) hb; have gb1 : w1.cell? ⟨b, 1, none⟩ = some (.int .i64 x.b) := (by rw [Lib.cell_of_heap gb]; rfl); have gc4 := g4.cell; have gf4 := g4.frozen
      gi_wp2_with fail
      refine ⟨(keepsFrom_keepX hx (by omega)).trans ((KeepsOthers.setCell _ _ _).from _), (KpR_keepX hx (build_block h3).choose_spec (hbb.mono (by omega))).trans (KpR_box g4 (by omega)), g1.other (by omega) _, g2.other (by omega) _, ?_, ?_, (hB.trans (hbb.mono (by omega))).setCell (p := ⟨w.heap.size + 1 + 1 + 1, 0, none⟩) (by show w.heap.size ≤ w.heap.size + 1 + 1 + 1; omega) _⟩
      · rw [HR.out, strCells_app]; exact build_set (.inr hba) g4 (by decide) (by decide)
      · rw [HL.out]; exact g4.set _
    · have hby1 : byF s name by_ x = s.extract x.a x.b := if_neg hn
      rw [hby1] at hS1 z2 HR
      have hd : decide (strOfNums x.s = name) = false := decide_eq_false hn
      have HB1 := HBC noS false (if_neg hn) hd
      have hgl : s.extract p x.a ++ s.extract x.a x.b = s.extract p x.b := ext_glue3 s p x.a x.b (by omega) (by omega)
      rw [hgl] at hS1 z2 HR
      clear hgl
      clear HBC hd hby1 hn HF D1 D2 hby hs hf ht hnf hbb hbn a0 a1 a2 a3 hf4 ht4 hc4 hB0
      gi_wp2_with fail
      refine ⟨trivial, ?_⟩; gi_at_call 15; refine (CallsIn.inRound _ (callsIn_wide.2 (HB1.out W hB))).mono ?_; rintro e w' ⟨rfl, rfl⟩
      gi_wp2_with fail
      refine ⟨trivial, ?_⟩; gi_at_call 21; refine (CallsIn.inRound _ (callsIn_wide.2 (writeString_any _ _ _ _ _ h3 (Nat.le_trans (Nat.add_le_add hl z2) (by decide)) (Nat.le_trans (by omega) (build_size h3))))).mono ?_; rintro e w1 ⟨rfl, hba, hbb, hx⟩; have g1 := boxed_keepX h1 hx (by omega) (by decide); have g2 := boxed_keepX h2 hx (by omega) (by decide); have g4 := boxed_keepX h4 hx (by omega) (by decide); have gb := hx.2 b _ hnb (fun cur e => by cases e) hb; have gb1 : w1.cell? ⟨b, 1, none⟩ = some (.int .i64 x.b) := (by rw [Lib.cell_of_heap gb]; rfl); have gc4 := g4.cell; have gf4 := g4.frozen
      gi_wp2_with fail
      refine ⟨(keepsFrom_keepX hx (by omega)).trans ((KeepsOthers.setCell _ _ _).from _), (KpR_keepX hx (build_block h3).choose_spec (hbb.mono (by omega))).trans (KpR_box g4 (by omega)), g1.other (by omega) _, g2.other (by omega) _, ?_, ?_, (hB.trans (hbb.mono (by omega))).setCell (p := ⟨w.heap.size + 1 + 1 + 1, 0, none⟩) (by show w.heap.size ≤ w.heap.size + 1 + 1 + 1; omega) _⟩
      · rw [HR.out, strCells_app]; exact build_set (.inr hba) g4 (by decide) (by decide)
      · rw [HL.out]; exact g4.set _
  case done =>
    rintro D W hD ⟨h1, h2, h3, h4, hB⟩ hK
    have hls := chain_last s (refsN (bsOf s)) 0 (Nat.zero_le _) (refsN_chain s)
    have hrl := refsN_len (bsOf s)
    rw [bsOf_len] at hrl
    have hG := repG_le (byF s name by_) s hs (refsN (bsOf s)) 0 HF.out
    have hG2 : (repG (byF s name by_) s 0 (refsN (bsOf s))).size ≤ 501 * 1002 := Nat.le_trans hG (Nat.mul_le_mul_right _ (by omega))
    have HRN : Hid (repN (byF s name by_) s = repG (byF s name by_) s 0 (refsN (bsOf s)) ++ s.extract (lastB 0 (refsN (bsOf s))) s.size) := rfl
    clear hG HF
    generalize repG (byF s name by_) s 0 (refsN (bsOf s)) = t at *
    generalize lastB 0 (refsN (bsOf s)) = p at *
    have z1 := extr_le s p s.size
    have hS1 := fun w' => run_string_add (P := Tryd.prog) w' t (s.extract p s.size) (by omega) (by omega)
    have b0 : (0 : Int) ≤ (p : Int) := by omega
    have b1 : (p : Int) ≤ (s.size : Int) := by omega
    clear z1
    have c1 := h1.cell
    have c4 := h4.cell
    gi_wp2_with fail
    refine wpIn_wide.2 (wp_region_noPanic (wp_region_held_drew (S := fun w' => w'.cell? ⟨w.heap.size, 0, none⟩ = some (.string s) ∧ w'.cell? ⟨w.heap.size + 1 + 1 + 1, 0, none⟩ = some (.int .i64 p)) (by kernel_rfl) ⟨c1, c4⟩ (fun hHeld => ?_)))
    refine wpAnyH_take (i := 1) (oi := ({ dst := some 42, op := Op.load 9 (Operand.tmp 2), type := 9, pos := "refs.go:83", after := #[], guard := none } : Oper)) (v := ?_) rfl (by kernel_rfl) (by kernel_rfl) (by kernel_rfl) (fun _ _ _ h => h) (Or.inl ⟨by rfl, ?_⟩) (by assumption) ?_
    rotate_left 1
    · intro w hSw; (try dsimp only at hSw); go_simp; try with_reducible rfl
    (try simp only [Act.put, List.setIfInBounds_toArray, List.set_cons_zero, List.set_cons_succ])
    refine wpAnyH_take (i := 2) (oi := ({ dst := some 43, op := Op.load 3 (Operand.tmp 6), type := 3, pos := "refs.go:83", after := #[], guard := none } : Oper)) (v := ?_) rfl (by kernel_rfl) (by kernel_rfl) (by kernel_rfl) (fun _ _ _ h => h) (Or.inl ⟨by rfl, ?_⟩) (by assumption) ?_
    rotate_left 1
    · intro w hSw; (try dsimp only at hSw); go_simp; try with_reducible rfl
    (try simp only [Act.put, List.setIfInBounds_toArray, List.set_cons_zero, List.set_cons_succ])
    refine wpAnyH_take (i := 3) (oi := ({ dst := some 44, op := Op.slice 9 (Operand.tmp 42) (some (Operand.tmp 43)) none none, type := 9, pos := "refs.go:83", after := #[{ on := 1, ground := Ground.data }, { on := 2, ground := Ground.data }], guard := none } : Oper)) (v := ?_) rfl (by kernel_rfl) (by kernel_rfl) (by kernel_rfl) (fun _ _ _ h => h) (Or.inl ⟨by rfl, ?_⟩) (by assumption) ?_
    rotate_left 1
    · intro w hSw; (try dsimp only at hSw); go_simp; try with_reducible rfl
    (try simp only [Act.put, List.setIfInBounds_toArray, List.set_cons_zero, List.set_cons_succ])
    refine wpAnyH_ready (rs := [0]) (by kernel_rfl) (by simp) ?_
    refine AllReadyH.cons (o := _) rfl (fun K hK2 => ?_) AllReadyH.nil
    go_simp
    have q3 : Lib.IsBuilder 49 5 (w.heap.size + 1 + 1) (w.heap.size + 1 + 1) (Lib.byteCells t.data.toList) W.drew := build_heap h3 (fun _ _ _ h => h)
    have hbn := hB.size
    refine (Tryd.Builder_String_any_k _ _ _ _ (Lib.IsBuilderF.of q3) (Nat.le_trans (Nat.le_succ _) (build_size q3))).mono ?_
    rintro e w1 ⟨rfl, hF1, hB1, hO⟩
    have g1 : Boxed w1 w.heap.size 9 (.string s) := hO _ _ h1 (fun e => by injection e with e; omega) (fun c fz e => by cases e)
    have g4 : Boxed w1 (w.heap.size + 1 + 1 + 1) 3 (.int .i64 p) := hO _ _ h4 (fun e => by injection e with e; omega) (fun c fz e => by cases e)
    have gD : w1.heap[D]? = some (.deferred (some [])) := hO _ _ hK (fun e => by injection e with e; omega) (fun c fz e => by cases e)
    dsimp only
    refine hK2.out _ _ ⟨g1.cell, g4.cell⟩ (fun _ => ?_)
    clear hK2 K
    (try simp only [Act.put, List.setIfInBounds_toArray, List.set_cons_zero, List.set_cons_succ])
    have hB2 : Below w.heap.size w w1 := (hB.trans (KpR_drew w.heap.size W).1).trans (hB1.mono (by omega))
    refine wpAnyH_ready (rs := [4]) (by kernel_rfl) (by simp) ?_
    refine AllReadyH.cons (o := _) rfl (fun K hK2 => ?_) AllReadyH.nil
    go_simp
    refine hK2.out _ _ ⟨g1.cell, g4.cell⟩ (fun _ => ?_)
    clear hK2 K
    (try simp only [Act.put, List.setIfInBounds_toArray, List.set_cons_zero, List.set_cons_succ])
    refine wpAnyH_ready (rs := [5]) (by kernel_rfl) (by simp) ?_
    refine AllReadyH.cons (o := _) rfl (fun K hK2 => ?_) AllReadyH.nil
    go_simp
    refine hK2.out _ _ ⟨g1.cell, g4.cell⟩ (fun _ => ?_)
    clear hK2 K
    refine wpAnyH_done (by kernel_rfl) ?_ _
    refine NoPanic.normal ?_
    gi_wp2
    refine ⟨by simp, .inl ⟨_, _, rfl, run_takeDeferred gD, ?_⟩⟩
    refine ⟨.string (repN (byF s name by_) s), ?_, rfl, below_putR hB2 hB2.size (by omega)⟩
    rw [HRN.out]
    simp [results, Tryd.f14, go_sem]
end Go.Proofs.YtgbdkiphnghojaaDoor
