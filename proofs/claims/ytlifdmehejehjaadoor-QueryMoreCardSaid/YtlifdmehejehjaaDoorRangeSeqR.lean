/- The statement of a range over a function that tells a given row: the round knows which element comes next, may leave by a return; the iterator may write one box of its own that lay ahead of the loop. -/
import Derived.Test.YtlifdmehejehjaaDoorProg
import Derived.WalkKit
import Derived.RangeFuncNested
import Derived.RangeFuncBound
import Derived.RangeFuncCalls
import Derived.RangeFuncLeaves
import Derived.RangeFuncBox
namespace Go.Proofs.YtlifdmehejehjaaDoor
open Go.RowKit
theorem range_seqR {F : Fence} {n : Nat} {P : Program} {α : Type} {g : Operand} {ps : Array Tmp} {assign body : Code} {Q : Exit → Act → World → Prop} {a : Act} {w : World}
    (hro : F.round = none) (h1 : 1 ≤ n) {gf : Nat} {lb : Array Value} (hg : a.eval g = .func (.func gf) #[] lb) (hFg : F.fn gf) (eg : ∀ args w, (callFunc gf args).run P w = .ok (.enter gf args) w)
    {encs : α → Array Value} {Kp : World → World → Prop} (ys : List α) (hps : ∀ x, (encs x).size = ps.size) (Bs : Nat) (hBs : Bs < w.heap.size)
    (hKt : ∀ {A B C : World}, Kp A B → Kp B C → Kp A C) (hKb : ∀ (W : World) (l : Nat) (o o' : Obj), w.heap.size ≤ l → W.heap[l]? = some o → o.isCells = false → o.isWalk = false → Kp W (W.putObj l o'))
    (hseq : ∀ (l : Nat) (J Jx : List α → World → Prop) (W : World), Below w.heap.size w W → (∀ q A B, J q A → Below A.heap.size A B → J q B) → (∀ q A v, J q A → J q (A.setCell ⟨Bs, 0, none⟩ v)) →
      (∀ pre x W1, pre ++ [x] <+: ys → J pre W1 → YieldAt F (n - 1 - 1) P l (encs x) W1 fun e W' => (e = .returned (.bool true) ∧ J (pre ++ [x]) W' ∧ Kp W1 W') ∨ (e = .returned (.bool false) ∧ Jx (pre ++ [x]) W')) → J [] W →
      CallsIn F (n - 1) P gf (#[.func (.yield l) #[] #[]] ++ lb) W fun e W' => (∃ v, e = .returned v) ∧ (J ys W' ∨ ∃ pre, pre <+: ys ∧ Jx pre W'))
    (I : List α → World → Prop) (hIb : ∀ q A B, I q A → Below A.heap.size A B → I q B) (hIs : ∀ q A v, I q A → I q (A.setCell ⟨Bs, 0, none⟩ v)) (hIp : ∀ q A l o o', I q A → w.heap.size ≤ l → A.heap[l]? = some o → o.isCells = false → I q (A.putObj l o')) (h0 : I [] w)
    (Ix : List α → World → Prop) (hIxp : ∀ q A l o o', Ix q A → w.heap.size ≤ l → A.heap[l]? = some o → o.isCells = false → Ix q (A.putObj l o'))
    (Ax : α → Act → World → Prop) (hAp : ∀ x a' A l o o', Ax x a' A → w.heap.size ≤ l → A.heap[l]? = some o → o.isCells = false → Ax x a' (A.putObj l o'))
    (hassign : ∀ (l : Nat) (pre : List α) (x : α) (W : World) (K : Act → World → Prop), I pre W → (∀ a' W', KeepsFrom w.heap.size W W' → Kp W W' → I pre W' → Ax x a' W' → K a' W') →
      assign.wpIn (F.inRound l) (n - 1 - 1) P (Exit.then K (fun _ _ _ => False)) { tmps := (ps.zip (encs x)).foldl (fun t (p, v) => t.setIfInBounds p v) a.tmps, defers := [] } W)
    (hbody : ∀ (l : Nat) (pre : List α) (x : α) (a' : Act) (W : World), pre ++ [x] <+: ys → I pre W → Ax x a' W →
      body.wpIn (F.inRound l) (n - 1 - 1) P (fun e _ W' => KeepsFrom w.heap.size W W' ∧ ((e = .normal ∧ Kp W W' ∧ I (pre ++ [x]) W') ∨ (e = .ret ∧ Ix (pre ++ [x]) W'))) a' W)
    (hdone : ∀ (D : Nat) (W : World), w.heap.size ≤ D → I ys W → W.heap[D]? = some (.deferred (some [])) → Q .normal { a with defers := { target := .collected D, args := #[] } :: a.defers } W)
    (hstop : ∀ (D : Nat) (pre : List α) (W : World), w.heap.size ≤ D → pre <+: ys → Ix pre W → W.heap[D]? = some (.deferred (some [])) → Code.ret.wpIn F n P Q { a with defers := { target := .collected D, args := #[] } :: a.defers } W) :
    (Code.rangeFunc g ps assign body).wpIn F n P Q a w := by
  refine wpIn_rangeFunc fun fn hfn => ?_
  rw [hro]
  obtain ⟨R, hR⟩ : ∃ R : LoopState → Option Code → Loop, R = fun st pe => { state := st, pending := pe, fn := fn, tmps := a.tmps, params := ps, assign := assign, body := body, defers := w.heap.size } := ⟨_, rfl⟩
  have hd0 : (w.alloc (.deferred (some []))).heap[w.heap.size]? = some (.deferred (some [])) := World.alloc_heap_new w _
  have hbA : Below w.heap.size w (w.alloc (.deferred (some []))) := (Below.refl _ w).alloc (Nat.le_refl _) _
  have hbB : Below (w.heap.size + 1) (w.alloc (.deferred (some []))) ((w.alloc (.deferred (some []))).alloc (.loop (R .ready none))) := (Below.refl _ _).alloc (by simp) _
  have hl1 : ((w.alloc (.deferred (some []))).alloc (.loop (R .ready none))).heap[w.heap.size + 1]? = some (.loop (R .ready none)) := by
    have := World.alloc_heap_new (w.alloc (.deferred (some []))) (.loop (R .ready none))
    rwa [World.size_alloc] at this
  have hd1 := (hbB.block w.heap.size (by omega)).trans hd0
  have hb1 : Below w.heap.size w ((w.alloc (.deferred (some []))).alloc (.loop (R .ready none))) := hbA.trans (hbB.mono (by omega))
  have hi1 := hIb _ _ _ h0 hb1
  have hen := run_enterLoop_outer (P := P) (w := w) fn a.tmps ps assign body
  have er : ({ state := .ready, pending := none, fn := fn, tmps := a.tmps, params := ps, assign := assign, body := body, defers := w.heap.size } : Loop) = R .ready none := by rw [hR]
  rw [er] at hen
  generalize ((w.alloc (.deferred (some []))).alloc (.loop (R .ready none))) = W0 at *
  have hset : ∀ (A : World) (v : Value) (k : Nat), k ≠ Bs → (A.setCell ⟨Bs, 0, none⟩ v).heap[k]? = A.heap[k]? := fun A v k hk => Below.heap_setCell A ⟨Bs, 0, none⟩ v k hk
  refine ⟨w.heap.size + 1, _, W0, { target := .fn (.func gf) lb, args := #[.func (.yield (w.heap.size + 1)) #[] #[]] }, W0, gf, #[.func (.yield (w.heap.size + 1)) #[] #[]] ++ lb, W0, hen, ?_, ?_, ?_, fun _ => h1, ?_⟩
  · simp only [resolve, hg]
    simp [go_sem]
  · intro f' hf'
    simp [Target.leads] at hf'
    subst hf'; exact hFg
  · simp [invoke, go_sem, eg]
  · refine (hseq (w.heap.size + 1) (fun q W => I q W ∧ W.heap[w.heap.size + 1]? = some (.loop (R .ready none)) ∧ W.heap[w.heap.size]? = some (.deferred (some [])))
      (fun q W => Ix q W ∧ W.heap[w.heap.size + 1]? = some (.loop (R .done (some .ret))) ∧ W.heap[w.heap.size]? = some (.deferred (some []))) W0 hb1 ?_ ?_ ?_ ⟨hi1, hl1, hd1⟩).mono ?_
    · rintro q A B ⟨hi, hl, hd⟩ hb
      exact ⟨hIb _ _ _ hi hb, (hb.block _ (Array.getElem?_eq_some_iff.1 hl).1).trans hl, (hb.block _ (Array.getElem?_eq_some_iff.1 hd).1).trans hd⟩
    · rintro q A v ⟨hi, hl, hd⟩
      exact ⟨hIs _ _ _ hi, (hset A v _ (by omega)).trans hl, (hset A v _ (by omega)).trans hd⟩
    · rintro pre x W hpre ⟨hi, hl, hd⟩
      have hy := run_yield (P := P) (args := encs x) hl (by rw [hR]; exact hps x)
      have ef : (R .ready none).fn = fn := by rw [hR]
      have ea : (R .ready none).assign = assign := by rw [hR]
      have eb : (R .ready none).body = body := by rw [hR]
      have et : (R .ready none).tmps = a.tmps := by rw [hR]
      have ep : (R .ready none).params = ps := by rw [hR]
      have es : (R .ready none).state = .ready := by rw [hR]
      rw [ef, ea, eb, et, ep] at hy
      refine ⟨fn, _, assign, body, hy, roundIn_of_wpIn hfn (hassign _ pre x W _ hi fun a' Wa hkf hkp hia hax => ?_)⟩
      have hla := hkf.same _ _ (by omega) hl rfl
      have hda := hkf.same _ _ (Nat.le_refl _) hd rfl
      have hsz := (Array.getElem?_eq_some_iff.1 hla).1
      refine ⟨_, run_beginRound hla es, ?_⟩
      have hlb : (Wa.putObj (w.heap.size + 1) (.loop { R .ready none with state := .busy })).heap[w.heap.size + 1]? = some (.loop { R .ready none with state := .busy }) := World.putObj_heap_same hsz
      have hdb : (Wa.putObj (w.heap.size + 1) (.loop { R .ready none with state := .busy })).heap[w.heap.size]? = some (.deferred (some [])) := (World.putObj_heap_other (by omega)).trans hda
      have hkb : Kp Wa (Wa.putObj (w.heap.size + 1) (.loop { R .ready none with state := .busy })) := hKb _ _ _ _ (by omega) hla rfl rfl
      refine wpIn_mono (hbody _ pre x a' _ hpre (hIp _ _ _ _ _ hia (by omega) hla rfl) (hAp _ _ _ _ _ _ hax (by omega) hla rfl)) ?_
      rintro e a3 W3 ⟨hk3, hor⟩
      have hl3 := hk3.same _ _ (by omega) hlb rfl
      have hd3 := hk3.same _ _ (Nat.le_refl _) hdb rfl
      have hs3 := (Array.getElem?_eq_some_iff.1 hl3).1
      rcases hor with ⟨rfl, hkp3, hi3⟩ | ⟨rfl, hi3⟩
      · have hend := run_endRound (P := P) none hl3
        have er2 : ({ ({ R .ready none with state := .busy } : Loop) with state := if (none : Option Code).isNone then .ready else .done, pending := none } : Loop) = R .ready none := by rw [hR]; rfl
        rw [er2] at hend
        exact ⟨_, _, hend, .inl ⟨rfl, ⟨hIp _ _ _ _ _ hi3 (by omega) hl3 rfl, World.putObj_heap_same hs3, (World.putObj_heap_other (by omega)).trans hd3⟩, hKt hkp (hKt hkb (hKt hkp3 (hKb _ _ _ _ (by omega) hl3 rfl rfl)))⟩⟩
      · have hend := run_endRound (P := P) (some .ret) hl3
        have er2 : ({ ({ R .ready none with state := .busy } : Loop) with state := if (some Code.ret : Option Code).isNone then .ready else .done, pending := some .ret } : Loop) = R .done (some .ret) := by rw [hR]; rfl
        rw [er2] at hend
        exact ⟨_, _, hend, .inr ⟨rfl, hIxp _ _ _ _ _ hi3 (by omega) hl3 rfl, World.putObj_heap_same hs3, (World.putObj_heap_other (by omega)).trans hd3⟩⟩
    · rintro e W2 ⟨⟨v, rfl⟩, (⟨hi, hl, hd⟩ | ⟨pre, hpre, hi, hl, hd⟩)⟩
      · have hend := run_endLoop (P := P) hl (by rw [hR]; simp)
        have epn : (R .ready none).pending = none := by rw [hR]
        rw [epn] at hend
        exact ⟨none, _, hend, hdone _ _ (Nat.le_refl _) (hIp _ _ _ _ _ hi (by omega) hl rfl) ((World.putObj_heap_other (by omega)).trans hd)⟩
      · have hend := run_endLoop (P := P) hl (by rw [hR]; simp)
        have epn : (R .done (some .ret)).pending = some .ret := by rw [hR]
        rw [epn] at hend
        exact ⟨some .ret, _, hend, hstop _ pre _ (Nat.le_refl _) hpre (hIxp _ _ _ _ _ hi (by omega) hl rfl) ((World.putObj_heap_other (by omega)).trans hd)⟩
end Go.Proofs.YtlifdmehejehjaaDoor
