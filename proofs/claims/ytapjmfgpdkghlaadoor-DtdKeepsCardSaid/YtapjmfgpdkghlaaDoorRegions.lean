/- Merged texts: RangeSeq, RegionRound, RegLate. -/
import Derived.Test.YtapjmfgpdkghlaaDoorProg
import Derived.WalkKit
import Derived.RangeFuncNested
import Derived.RangeFuncBound
import Derived.RangeFuncCalls
import Derived.RangeFuncLeaves
import Derived.RangeFuncBox
import Derived.OrdersIn
import Derived.Deep.RegionHeld3
import Derived.OrdersHeld
/- A range over a function that tells a given row: the round knows which element comes next. No early way out. -/
namespace Go.Proofs.YtapjmfgpdkghlaaDoor
open Go.RowKit
/-- The statement, where each round is asked only at the element that comes next in ys. -/
theorem range_seq {F : Fence} {n : Nat} {P : Program} {α : Type} {g : Operand} {ps : Array Tmp} {assign body : Code} {Q : Exit → Act → World → Prop} {a : Act} {w : World}
    (hro : F.round = none) (h1 : 1 ≤ n) {gf : Nat} {lb : Array Value} (hg : a.eval g = .func (.func gf) #[] lb) (hFg : F.fn gf) (eg : ∀ args w, (callFunc gf args).run P w = .ok (.enter gf args) w)
    {encs : α → Array Value} {Kp : World → World → Prop} (ys : List α) (hps : ∀ x, (encs x).size = ps.size)
    (hKt : ∀ {A B C : World}, Kp A B → Kp B C → Kp A C) (hKb : ∀ (W : World) (l : Nat) (o o' : Obj), w.heap.size ≤ l → W.heap[l]? = some o → o.isCells = false → o.isWalk = false → Kp W (W.putObj l o'))
    (hseq : ∀ (l : Nat) (J : List α → World → Prop) (W : World), Below w.heap.size w W → (∀ q A B, J q A → Below A.heap.size A B → J q B) →
      (∀ pre x W1, pre ++ [x] <+: ys → J pre W1 → YieldAt F (n - 1 - 1) P l (encs x) W1 fun e W' => e = .returned (.bool true) ∧ J (pre ++ [x]) W' ∧ Kp W1 W') → J [] W →
      CallsIn F (n - 1) P gf (#[.func (.yield l) #[] #[]] ++ lb) W fun e W' => (∃ v, e = .returned v) ∧ J ys W')
    (I : List α → World → Prop) (hIb : ∀ q A B, I q A → Below A.heap.size A B → I q B) (hIp : ∀ q A l o o', I q A → w.heap.size ≤ l → A.heap[l]? = some o → o.isCells = false → I q (A.putObj l o')) (h0 : I [] w)
    (Ax : α → Act → World → Prop) (hAp : ∀ x a' A l o o', Ax x a' A → w.heap.size ≤ l → A.heap[l]? = some o → o.isCells = false → Ax x a' (A.putObj l o'))
    (hassign : ∀ (l : Nat) (pre : List α) (x : α) (W : World) (K : Act → World → Prop), I pre W → (∀ a' W', KeepsFrom w.heap.size W W' → Kp W W' → I pre W' → Ax x a' W' → K a' W') →
      assign.wpIn (F.inRound l) (n - 1 - 1) P (Exit.then K (fun _ _ _ => False)) { tmps := (ps.zip (encs x)).foldl (fun t (p, v) => t.setIfInBounds p v) a.tmps, defers := [] } W)
    (hbody : ∀ (l : Nat) (pre : List α) (x : α) (a' : Act) (W : World), pre ++ [x] <+: ys → I pre W → Ax x a' W →
      body.wpIn (F.inRound l) (n - 1 - 1) P (fun e _ W' => e = .normal ∧ KeepsFrom w.heap.size W W' ∧ Kp W W' ∧ I (pre ++ [x]) W') a' W)
    (hdone : ∀ (D : Nat) (W : World), w.heap.size ≤ D → I ys W → W.heap[D]? = some (.deferred (some [])) → Q .normal { a with defers := { target := .collected D, args := #[] } :: a.defers } W) :
    (Code.rangeFunc g ps assign body).wpIn F n P Q a w := by
  refine wpIn_rangeFunc fun fn hfn => ?_
  rw [hro]
  obtain ⟨R, hR⟩ : ∃ R : LoopState → Loop, R = fun st => { state := st, pending := none, fn := fn, tmps := a.tmps, params := ps, assign := assign, body := body, defers := w.heap.size } := ⟨_, rfl⟩
  have hd0 : (w.alloc (.deferred (some []))).heap[w.heap.size]? = some (.deferred (some [])) := World.alloc_heap_new w _
  have hbA : Below w.heap.size w (w.alloc (.deferred (some []))) := (Below.refl _ w).alloc (Nat.le_refl _) _
  have hbB : Below (w.heap.size + 1) (w.alloc (.deferred (some []))) ((w.alloc (.deferred (some []))).alloc (.loop (R .ready))) := (Below.refl _ _).alloc (by simp) _
  have hl1 : ((w.alloc (.deferred (some []))).alloc (.loop (R .ready))).heap[w.heap.size + 1]? = some (.loop (R .ready)) := by
    have := World.alloc_heap_new (w.alloc (.deferred (some []))) (.loop (R .ready))
    rwa [World.size_alloc] at this
  have hd1 := (hbB.block w.heap.size (by omega)).trans hd0
  have hb1 : Below w.heap.size w ((w.alloc (.deferred (some []))).alloc (.loop (R .ready))) := hbA.trans (hbB.mono (by omega))
  have hi1 := hIb _ _ _ h0 hb1
  have hen := run_enterLoop_outer (P := P) (w := w) fn a.tmps ps assign body
  have er : ({ state := .ready, pending := none, fn := fn, tmps := a.tmps, params := ps, assign := assign, body := body, defers := w.heap.size } : Loop) = R .ready := by rw [hR]
  rw [er] at hen
  generalize ((w.alloc (.deferred (some []))).alloc (.loop (R .ready))) = W0 at *
  refine ⟨w.heap.size + 1, _, W0, { target := .fn (.func gf) lb, args := #[.func (.yield (w.heap.size + 1)) #[] #[]] }, W0, gf, #[.func (.yield (w.heap.size + 1)) #[] #[]] ++ lb, W0, hen, ?_, ?_, ?_, fun _ => h1, ?_⟩
  · simp only [resolve, hg]
    simp [go_sem]
  · intro f' hf'
    simp [Target.leads] at hf'
    subst hf'; exact hFg
  · simp [invoke, go_sem, eg]
  · refine (hseq (w.heap.size + 1) (fun q W => I q W ∧ W.heap[w.heap.size + 1]? = some (.loop (R .ready)) ∧ W.heap[w.heap.size]? = some (.deferred (some []))) W0 hb1 ?_ ?_ ⟨hi1, hl1, hd1⟩).mono ?_
    · rintro q A B ⟨hi, hl, hd⟩ hb
      exact ⟨hIb _ _ _ hi hb, (hb.block _ (Array.getElem?_eq_some_iff.1 hl).1).trans hl, (hb.block _ (Array.getElem?_eq_some_iff.1 hd).1).trans hd⟩
    · rintro pre x W hpre ⟨hi, hl, hd⟩
      have hy := run_yield (P := P) (args := encs x) hl (by rw [hR]; exact hps x)
      have ef : (R .ready).fn = fn := by rw [hR]
      have ea : (R .ready).assign = assign := by rw [hR]
      have eb : (R .ready).body = body := by rw [hR]
      have et : (R .ready).tmps = a.tmps := by rw [hR]
      have ep : (R .ready).params = ps := by rw [hR]
      have es : (R .ready).state = .ready := by rw [hR]
      rw [ef, ea, eb, et, ep] at hy
      refine ⟨fn, _, assign, body, hy, roundIn_of_wpIn hfn (hassign _ pre x W _ hi fun a' Wa hkf hkp hia hax => ?_)⟩
      have hla := hkf.same _ _ (by omega) hl rfl
      have hda := hkf.same _ _ (Nat.le_refl _) hd rfl
      have hsz := (Array.getElem?_eq_some_iff.1 hla).1
      refine ⟨_, run_beginRound hla es, ?_⟩
      have hlb : (Wa.putObj (w.heap.size + 1) (.loop { R .ready with state := .busy })).heap[w.heap.size + 1]? = some (.loop { R .ready with state := .busy }) := World.putObj_heap_same hsz
      have hdb : (Wa.putObj (w.heap.size + 1) (.loop { R .ready with state := .busy })).heap[w.heap.size]? = some (.deferred (some [])) := (World.putObj_heap_other (by omega)).trans hda
      have hkb : Kp Wa (Wa.putObj (w.heap.size + 1) (.loop { R .ready with state := .busy })) := hKb _ _ _ _ (by omega) hla rfl rfl
      refine wpIn_mono (hbody _ pre x a' _ hpre (hIp _ _ _ _ _ hia (by omega) hla rfl) (hAp _ _ _ _ _ _ hax (by omega) hla rfl)) ?_
      rintro e a3 W3 ⟨rfl, hk3, hkp3, hi3⟩
      have hl3 := hk3.same _ _ (by omega) hlb rfl
      have hd3 := hk3.same _ _ (Nat.le_refl _) hdb rfl
      have hs3 := (Array.getElem?_eq_some_iff.1 hl3).1
      have hend := run_endRound (P := P) none hl3
      have er2 : ({ ({ R .ready with state := .busy } : Loop) with state := if (none : Option Code).isNone then .ready else .done, pending := none } : Loop) = R .ready := by rw [hR]; rfl
      rw [er2] at hend
      exact ⟨_, _, hend, rfl, ⟨hIp _ _ _ _ _ hi3 (by omega) hl3 rfl, World.putObj_heap_same hs3, (World.putObj_heap_other (by omega)).trans hd3⟩, hKt hkp (hKt hkb (hKt hkp3 (hKb _ _ _ _ (by omega) hl3 rfl rfl)))⟩
    · rintro e W2 ⟨⟨v, rfl⟩, hi, hl, hd⟩
      have hend := run_endLoop (P := P) hl (by rw [hR]; simp)
      have epn : (R .ready).pending = none := by rw [hR]
      rw [epn] at hend
      exact ⟨none, _, hend, hdone _ _ (Nat.le_refl _) (hIp _ _ _ _ _ hi (by omega) hl rfl) ((World.putObj_heap_other (by omega)).trans hd)⟩
end Go.Proofs.YtapjmfgpdkghlaaDoor
/- A region that draws its order of evaluation, in the round of a range over a function: the held walk of the plain calculus serves, where no operation defers. Conditions: the fence is the wide one. -/
namespace Go.Proofs.YtapjmfgpdkghlaaDoor
open Go.RowKit
def noDefer (ops : List Oper) : Bool := ops.all fun o => match o.op with | .defer _ => false | _ => true
theorem noDefer_at {ops : List Oper} (h : noDefer ops = true) {o : Oper} (ho : o ∈ ops) (c : Call) : o.op ≠ .defer c := fun e => by
  have := List.all_eq_true.1 h o ho
  rw [e] at this
  cases this
theorem rows_round {n l : Nat} {P : Program} {row : String} {args : Array Value} {w : World} {R : Value → World → Prop} (h : Rows P row args w R) : RowsIn (Fence.wide.inRound l) n P row args w R := fun c cs _ => by
  obtain ⟨v, w', r, s⟩ := h c cs
  refine ⟨v, w', r, ?_⟩
  rw [fenced_inRound]
  exact stepsIn_wide.2 s
theorem oper_round {n l : Nat} {P : Program} {o : Oper} {a : Act} {w : World} {K K' : Act → World → Prop} {Q : Exit → Act → World → Prop} (hnd : ∀ c, o.op ≠ .defer c) (hK : ∀ a w, K a w → K' a w) (h : o.wp P a w K Q) : o.wpIn (Fence.wide.inRound l) n P a w K' Q := by
  refine ⟨fun _ _ => trivial, ?_⟩
  rw [Oper.semAt_eq _ _ _ hnd]
  unfold Oper.wp at h
  generalize (execOp a.eval o).run P w = r at *
  cases r with
  | ok x w' =>
    cases x <;> simp only [Oper.upon, Oper.uponIn] at h ⊢
    case value u => exact hK _ _ h
    case skip => exact hK _ _ h
    case defer d => exact hK _ _ h
    case enter f args =>
      refine ⟨fun hd => by simp [Fence.wide] at hd, CallsIn.inRound l (callsIn_wide.2 (Calls.mono h fun e w'' he => ?_))⟩
      cases e with
      | returned u => exact hK _ _ he
      | panicked c => exact he
      | outgrown => exact he
    case row row args => exact ⟨fun hd => by simp [Fence.wide] at hd, rows_round (Rows.mono h fun v w'' he => hK _ _ he)⟩
  | halt x w' => cases x <;> simp only [Oper.upon, Oper.uponIn] at h ⊢ <;> exact h
theorem ops_round {n l : Nat} {P : Program} {ops : Array Oper} {Q : Exit → Act → World → Prop} (hnd : noDefer ops.toList = true) (hL : ¬ LetsOut Q) : ∀ (is : List Nat) (a : Act) (w : World), wpOps P ops Q is a w → wpOpsIn (Fence.wide.inRound l) n P ops Q is a w := by
  intro is
  induction is with
  | nil => exact fun _ _ h => h
  | cons i is ih =>
    intro a w h
    unfold wpOps at h
    unfold wpOpsIn
    cases ho : ops[i]? with
    | none => simp only [ho] at h ⊢; exact ih _ _ h
    | some o =>
      simp only [ho] at h ⊢
      by_cases hw : Region.wanted o (yielded ops a.tmps) = true
      · rw [if_pos hw] at h ⊢
        rcases h with h | h
        · exact oper_round (noDefer_at hnd (by obtain ⟨hi, e⟩ := Array.getElem?_eq_some_iff.1 ho; rw [← e]; exact Array.mem_toList_iff.2 (Array.getElem_mem hi))) ih h
        · exact absurd h.2 hL
      · rw [if_neg hw] at h ⊢
        exact ⟨fun _ _ => trivial, ih _ _ h⟩
/-- A region that draws, in a round: S is shown of the world behind the draw. -/
theorem region_round {n l : Nat} {P : Program} {id : Nat} {ops : Array Oper} {Q : Exit → Act → World → Prop} {S : World → Prop} {a : Act} {w : World} (hm : P.follows .mixedOrders = true) (hnd : noDefer ops.toList = true) (hL : ¬ LetsOut Q) (hS : S w.drew)
    (h : S w.drew → wpAnyH P .any ops Q S ops.size (Array.replicate ops.size false) a w.drew) : (Code.region id ops true).wpIn (Fence.wide.inRound l) n P Q a w :=
  wpIn_region_draw fun t => by
    simp only [Region.schedule, hm, Bool.true_or, if_true]
    exact ops_round hnd hL _ _ _ (wpAny_sound ops.size t _ a _ (wpAny_of_held _ _ _ _ (h hS)))
end Go.Proofs.YtapjmfgpdkghlaaDoor
/- A region that draws its order: conditions on the world that each hold until a named operation has come up. So a load of a cell which a later operation of the region writes may be taken first. Nothing of the program. -/
namespace Go.Proofs.YtapjmfgpdkghlaaDoor
open Go
section
variable {P : Program} {ops : Array Oper} {Q : Exit → Act → World → Prop} {md : Region.Mode} {cs : List (Nat × (World → Prop))}
/-- Each condition holds, or its operation has come up. -/
def CondsAt (l : Array Bool) (w : World) : List (Nat × (World → Prop)) → Prop
  | [] => True
  | (k, S) :: cs => (l.getD k true = true ∨ S w) ∧ CondsAt l w cs
theorem CondsAt.get {l : Array Bool} {w : World} : ∀ {cs : List (Nat × (World → Prop))} {m k : Nat} {S : World → Prop}, CondsAt l w cs → cs[m]? = some (k, S) → l.getD k true = true ∨ S w
  | [], m, k, S, _, h => by simp at h
  | (k', S') :: cs, 0, k, S, h, e => by
    simp at e; obtain ⟨rfl, rfl⟩ := e; exact h.1
  | (k', S') :: cs, m + 1, k, S, h, e => CondsAt.get h.2 (by simpa using e)
/-- Operation i is none of the named ones. -/
def notNamed (i : Nat) (cs : List (Nat × (World → Prop))) : Bool := cs.all fun c => c.1 != i
theorem CondsAt.unset {l : Array Bool} {w : World} {i : Nat} : ∀ {cs : List (Nat × (World → Prop))}, notNamed i cs = true → CondsAt (l.setIfInBounds i true) w cs → CondsAt l w cs
  | [], _, _ => trivial
  | (k, S) :: cs, h, hc => by
    unfold notNamed at h
    rw [List.all_cons, Bool.and_eq_true] at h
    have hk : i ≠ k := fun e => by subst e; simp at h
    exact ⟨by have := hc.1; rwa [getD_set_ne true hk] at this, CondsAt.unset h.2 hc.2⟩
theorem condsSet {l : Array Bool} {w : World} {i : Nat} : ∀ {cs : List (Nat × (World → Prop))}, CondsAt l w cs → CondsAt (l.setIfInBounds i true) w cs
  | [], _ => trivial
  | (k, S) :: cs, h => by
    refine ⟨h.1.imp (fun h' => ?_) id, condsSet h.2⟩
    by_cases e : i = k
    · subst e
      rcases Nat.lt_or_ge i l.size with h2 | h2
      · simp [h2]
      · simp [h2]
    · rw [getD_set_ne true e]; exact h'
def wpAnyL (P : Program) (md : Region.Mode) (ops : Array Oper) (Q : Exit → Act → World → Prop) (cs : List (Nat × (World → Prop))) : Nat → Array Bool → Act → World → Prop
  | 0, listed, a, w => Region.ready md ops listed = [] ∧ Q .normal a w
  | fuel + 1, listed, a, w =>
    (Region.ready md ops listed = [] → Q .normal a w) ∧
    ∀ i ∈ Region.ready md ops listed, wpOp P ops Q i (fun a' w' => CondsAt (listed.setIfInBounds i true) w' cs ∧ wpAnyL P md ops Q cs fuel (listed.setIfInBounds i true) a' w') a w
theorem wpAny_of_late : ∀ (fuel : Nat) (listed : Array Bool) (a : Act) (w : World), wpAnyL P md ops Q cs fuel listed a w → wpAny P md ops Q fuel listed a w
  | 0, _, _, _, h => h
  | fuel + 1, _, _, _, h => ⟨h.1, fun i hi => wpOp_mono (fun a' w' h' => wpAny_of_late fuel _ a' w' h'.2) (h.2 i hi)⟩
/-- What has come up in l0 has come up in l. -/
def leqB (l0 l : Array Bool) : Bool := decide (l.size ≤ l0.size) && (List.range l0.size).all fun k => !l0.getD k true || l.getD k true
theorem leqB_spec {l0 l : Array Bool} (h : leqB l0 l = true) {k : Nat} (hk : l0.getD k true = true) : l.getD k true = true := by
  unfold leqB at h
  obtain ⟨h1, h2⟩ := Bool.and_eq_true_iff.1 h
  have h1 := of_decide_eq_true h1
  rcases Nat.lt_or_ge k l0.size with h' | h'
  · have := List.all_eq_true.1 h2 k (List.mem_range.2 h')
    rw [hk] at this
    simpa using this
  · rw [Array.getD_eq_getD_getElem?, Array.getElem?_eq_none (by omega)]; rfl
theorem CondsAt.later {l0 l : Array Bool} {w : World} (hl : leqB l0 l = true) : ∀ {cs : List (Nat × (World → Prop))}, CondsAt l0 w cs → CondsAt l w cs
  | [], _ => trivial
  | (_, _) :: _, h => ⟨h.1.imp (leqB_spec hl) id, CondsAt.later hl h.2⟩
/-- Operation k waits for operation i. -/
def waitsFor (md : Region.Mode) (ops : Array Oper) (k i : Nat) : Bool := match ops[k]? with
  | some o => o.after.any fun e => Region.binds md e && e.on == i
  | none => false
theorem waits_ready {k i : Nat} {listed : Array Bool} (h : waitsFor md ops k i = true) (hi : listed.getD i true = false) : k ∉ Region.ready md ops listed := fun hr => by
  obtain ⟨_, o, ho, hall⟩ := mem_ready.1 hr
  unfold waitsFor at h
  rw [ho] at h
  obtain ⟨e, he, hb⟩ := Array.any_eq_true'.1 h
  rw [Bool.and_eq_true] at hb
  have h1 := hall e he hb.1
  rw [show e.on = i by simpa using hb.2] at h1
  rcases Nat.lt_or_ge i listed.size with h' | h'
  · simp [h'] at hi h1; rw [hi] at h1; cases h1
  · simp [Array.getElem?_eq_none h'] at h1
theorem wpAnyL_first {i k m : Nat} {oi : Oper} {v : Value} {S : World → Prop} (hi : ops[i]? = some oi) (hsel : ∀ (j : Nat) (o : Oper) cs b, ops[j]? = some o → o.op ≠ .select cs b)
    (hQ : ∀ c a w, Q (.panic c) (a.put oi.dst v) w → Q (.panic c) a w) (hm : cs[m]? = some (k, S)) (hnn : notNamed i cs = true) (hkw : waitsFor md ops k i = true) :
    ∀ (fuel : Nat) (listed : Array Bool) (a : Act) (w : World),
      (∀ j oj, ops[j]? = some oj → j ≠ i → listed.getD j true = false → (∀ e ∈ oj.after, Region.binds md e = true → e.on ≠ i) → oi.apart ops oj = true) →
      i ∈ Region.ready md ops listed → listed.getD k true = false → YieldsIf P ops S oi v a → CondsAt listed w cs →
      wpAnyL P md ops Q cs fuel (listed.setIfInBounds i true) (a.put oi.dst v) w → wpAnyL P md ops Q cs (fuel + 1) listed a w := by
  have hik : i ≠ k := fun e => by
    subst e
    unfold notNamed at hnn
    have := List.all_eq_true.1 hnn _ (List.mem_of_getElem? hm)
    simp at this
  intro fuel
  induction fuel with
  | zero =>
    intro listed a w _ hr hk hy hS H
    have hSw : S w := by
      rcases hS.get hm with h | h
      · rw [hk] at h; cases h
      · exact h
    refine ⟨fun h => (by rw [h] at hr; cases hr), fun j hj => ?_⟩
    by_cases hji : j = i
    · subst hji
      refine hy.wpOp hi hSw ⟨?_, H⟩
      exact condsSet hS
    · have := ready_mono hj hji
      rw [H.1] at this
      cases this
  | succ fuel ih =>
    intro listed a w hfree hr hk hy hS H
    have hSw : S w := by
      rcases hS.get hm with h | h
      · rw [hk] at h; cases h
      · exact h
    refine ⟨fun h => (by rw [h] at hr; cases hr), fun j hj => ?_⟩
    by_cases hji : j = i
    · subst hji; exact hy.wpOp hi hSw ⟨condsSet hS, H⟩
    · have h1 := H.2 j (ready_mono hj hji)
      obtain ⟨hjun, oj, hoj, hall⟩ := mem_ready.1 hj
      have hiun := (mem_ready.1 hr).1
      have hjk : j ≠ k := fun e => waits_ready hkw hiun (e ▸ hj)
      have hnot : ∀ e ∈ oj.after, Region.binds md e = true → e.on ≠ i := fun e he hb heq => by
        have h1 := hall e he hb
        have h0 := (mem_ready.1 hr).1
        rw [heq] at h1
        rcases Nat.lt_or_ge i listed.size with h' | h'
        · simp [h'] at h0 h1; rw [h0] at h1; cases h1
        · simp [Array.getElem?_eq_none h'] at h1
      have h2 := wpOp_putIf hoj (hfree j oj hoj hji hjun hnot) (fun cs b => hsel i oi cs b hi) (fun cs b => hsel j oj cs b hoj) hQ hy h1
      have hfree' : ∀ k ok, ops[k]? = some ok → k ≠ i → (listed.setIfInBounds j true).getD k true = false →
          (∀ e ∈ ok.after, Region.binds md e = true → e.on ≠ i) → oi.apart ops ok = true := fun k ok hk hki hun hno => by
        refine hfree k ok hk hki ?_ hno
        by_cases hjk : j = k
        · subst hjk; exact hjun
        · rw [getD_set_ne true hjk] at hun; exact hun
      refine wpOp_mono (fun a' w' h3 => ?_) h2
      have hc := h3.2.1
      rw [Array.setIfInBounds_comm _ _ (Ne.symm hji)] at hc
      have hc := CondsAt.unset hnn hc
      refine ⟨hc, ih (listed.setIfInBounds j true) a' w' hfree' (ready_mono hr (Ne.symm hji)) (by rw [getD_set_ne true hjk]; exact hk) h3.1 hc ?_⟩
      rw [Array.setIfInBounds_comm _ _ hji]
      exact h3.2.2
/-- Take number i first: it yields v in every world that meets condition m, whose operation k waits for i. -/
theorem wpAnyL_take {i : Nat} (m : Nat) {k : Nat} {oi : Oper} {v : Value} {S : World → Prop} {fuel : Nat} {l0 listed : Array Bool} {a : Act} {w : World} (hi : ops[i]? = some oi)
    (hs : Region.noSelect ops = true) (hf : Region.free md ops listed i = true) (hr : (Region.ready md ops listed).contains i = true)
    (hm : cs[m]? = some (k, S)) (hnn : notNamed i cs = true) (hkw : waitsFor md ops k i = true) (hk : listed.getD k true = false)
    (hQ : ∀ c a w, Q (.panic c) (a.put oi.dst v) w → Q (.panic c) a w) (hy : YieldsIf P ops S oi v a) (hS : CondsAt l0 w cs) (hle : leqB l0 listed = true)
    (h : wpAnyL P md ops Q cs fuel (listed.setIfInBounds i true) (a.put oi.dst v) w) : wpAnyL P md ops Q cs (fuel + 1) listed a w :=
  wpAnyL_first hi (Region.noSelect_spec hs) hQ hm hnn hkw fuel listed a w (Region.free_spec hi hf) (by simpa using hr) hk hy (hS.later hle) h
/-- Take number i first: it yields v in whatever world. -/
theorem wpAnyL_free {i : Nat} {oi : Oper} {v : Value} (hi : ops[i]? = some oi) (hsel : ∀ (j : Nat) (o : Oper) cs b, ops[j]? = some o → o.op ≠ .select cs b)
    (hQ : ∀ c a w, Q (.panic c) (a.put oi.dst v) w → Q (.panic c) a w) (hnn : notNamed i cs = true) :
    ∀ (fuel : Nat) (listed : Array Bool) (a : Act) (w : World),
      (∀ j oj, ops[j]? = some oj → j ≠ i → listed.getD j true = false → (∀ e ∈ oj.after, Region.binds md e = true → e.on ≠ i) → oi.apart ops oj = true) →
      i ∈ Region.ready md ops listed → YieldsIf P ops (fun _ => True) oi v a → CondsAt listed w cs →
      wpAnyL P md ops Q cs fuel (listed.setIfInBounds i true) (a.put oi.dst v) w → wpAnyL P md ops Q cs (fuel + 1) listed a w := by
  intro fuel
  induction fuel with
  | zero =>
    intro listed a w _ hr hy hS H
    refine ⟨fun h => (by rw [h] at hr; cases hr), fun j hj => ?_⟩
    by_cases hji : j = i
    · subst hji; exact hy.wpOp hi trivial ⟨condsSet hS, H⟩
    · have := ready_mono hj hji
      rw [H.1] at this
      cases this
  | succ fuel ih =>
    intro listed a w hfree hr hy hS H
    refine ⟨fun h => (by rw [h] at hr; cases hr), fun j hj => ?_⟩
    by_cases hji : j = i
    · subst hji; exact hy.wpOp hi trivial ⟨condsSet hS, H⟩
    · have h1 := H.2 j (ready_mono hj hji)
      obtain ⟨hjun, oj, hoj, hall⟩ := mem_ready.1 hj
      have hnot : ∀ e ∈ oj.after, Region.binds md e = true → e.on ≠ i := fun e he hb heq => by
        have h1 := hall e he hb
        have h0 := (mem_ready.1 hr).1
        rw [heq] at h1
        rcases Nat.lt_or_ge i listed.size with h' | h'
        · simp [h'] at h0 h1; rw [h0] at h1; cases h1
        · simp [Array.getElem?_eq_none h'] at h1
      have h2 := wpOp_putIf hoj (hfree j oj hoj hji hjun hnot) (fun cs b => hsel i oi cs b hi) (fun cs b => hsel j oj cs b hoj) hQ hy h1
      have hfree' : ∀ k ok, ops[k]? = some ok → k ≠ i → (listed.setIfInBounds j true).getD k true = false →
          (∀ e ∈ ok.after, Region.binds md e = true → e.on ≠ i) → oi.apart ops ok = true := fun k ok hk hki hun hno => by
        refine hfree k ok hk hki ?_ hno
        by_cases hjk : j = k
        · subst hjk; exact hjun
        · rw [getD_set_ne true hjk] at hun; exact hun
      refine wpOp_mono (fun a' w' h3 => ?_) h2
      have hc := h3.2.1
      rw [Array.setIfInBounds_comm _ _ (Ne.symm hji)] at hc
      have hc := CondsAt.unset hnn hc
      refine ⟨hc, ih (listed.setIfInBounds j true) a' w' hfree' (ready_mono hr (Ne.symm hji)) h3.1 hc ?_⟩
      rw [Array.setIfInBounds_comm _ _ hji]
      exact h3.2.2
theorem wpAnyL_pure {i : Nat} {oi : Oper} {v : Value} {fuel : Nat} {l0 listed : Array Bool} {a : Act} {w : World} (hi : ops[i]? = some oi)
    (hs : Region.noSelect ops = true) (hf : Region.free md ops listed i = true) (hr : (Region.ready md ops listed).contains i = true) (hnn : notNamed i cs = true)
    (hQ : ∀ c a w, Q (.panic c) (a.put oi.dst v) w → Q (.panic c) a w) (hy : YieldsIf P ops (fun _ => True) oi v a) (hS : CondsAt l0 w cs) (hle : leqB l0 listed = true)
    (h : wpAnyL P md ops Q cs fuel (listed.setIfInBounds i true) (a.put oi.dst v) w) : wpAnyL P md ops Q cs (fuel + 1) listed a w :=
  wpAnyL_free hi (Region.noSelect_spec hs) hQ hnn fuel listed a w (Region.free_spec hi hf) (by simpa using hr) hy (hS.later hle) h
def AllReadyL (P : Program) (md : Region.Mode) (ops : Array Oper) (Q : Exit → Act → World → Prop) (cs : List (Nat × (World → Prop))) (fuel : Nat) (listed : Array Bool) (a : Act) (w : World) (rs : List Nat) : Prop :=
  ∀ i ∈ rs, wpOp P ops Q i (fun a' w' => CondsAt (listed.setIfInBounds i true) w' cs ∧ wpAnyL P md ops Q cs fuel (listed.setIfInBounds i true) a' w') a w
theorem AllReadyL.nil {fuel : Nat} {listed : Array Bool} {a : Act} {w : World} : AllReadyL P md ops Q cs fuel listed a w [] := fun _ h => by cases h
theorem AllReadyL.cons {fuel : Nat} {listed : Array Bool} {a : Act} {w : World} {i : Nat} {o : Oper} {rs : List Nat} (ho : ops[i]? = some o)
    (h : ∀ K' : Act → World → Prop, Shut (∀ a w, CondsAt (listed.setIfInBounds i true) w cs → (CondsAt (listed.setIfInBounds i true) w cs → wpAnyL P md ops Q cs fuel (listed.setIfInBounds i true) a w) → K' a w) → if Region.wanted o (yielded ops a.tmps) = true then Oper.wp P o a w K' Q else K' (a.put o.dst undef) w)
    (hs : AllReadyL P md ops Q cs fuel listed a w rs) : AllReadyL P md ops Q cs fuel listed a w (i :: rs) := fun j hj => by
  rcases List.mem_cons.1 hj with rfl | hj
  · exact wpOp_step ho (fun K' hK => h K' (fun a w hS hW => hK a w ⟨hS, hW hS⟩))
  · exact hs j hj
theorem wpAnyL_ready {rs : List Nat} {fuel : Nat} {listed : Array Bool} {a : Act} {w : World} (hr : Region.ready md ops listed = rs) (hne : rs ≠ [])
    (h : AllReadyL P md ops Q cs fuel listed a w rs) : wpAnyL P md ops Q cs (fuel + 1) listed a w := ⟨fun h0 => absurd (hr ▸ h0) hne, hr ▸ h⟩
theorem wpAnyL_done {listed : Array Bool} {a : Act} {w : World} (hr : Region.ready md ops listed = []) (h : Q .normal a w) :
    ∀ fuel, wpAnyL P md ops Q cs fuel listed a w
  | 0 => ⟨hr, h⟩
  | _ + 1 => ⟨fun _ => h, by rw [hr]; simp⟩
/-- The beginning: the conditions are shown of the world behind the draw. -/
theorem wp_region_late (cs : List (Nat × (World → Prop))) {id : Nat} {a : Act} {w : World} (hm : P.follows .mixedOrders = true) (hS : CondsAt (Array.replicate ops.size false) w.drew cs)
    (h : CondsAt (Array.replicate ops.size false) w.drew cs → wpAnyL P .any ops Q cs ops.size (Array.replicate ops.size false) a w.drew) : (Code.region id ops true).wp P Q a w :=
  wp_region_any hm (wpAny_of_late _ _ _ _ (h hS))
end
end Go.Proofs.YtapjmfgpdkghlaaDoor
