/- A region that draws its order: conditions on the world that each hold until a named operation has come up. So a load of a cell which a later operation of the region writes may be taken first. Nothing of the program. -/
import Derived.OrdersHeld
import Derived.Deep.RegionHeld3
import Derived.OrdersIn
import Derived.RangeFuncCalls
namespace Go.Proofs.Ytbamcpnmabpacaa
open Go
section
variable {P : Program} {ops : Array Oper} {Q : Exit → Act → World → Prop} {md : Region.Mode} {cs : List (Nat × (World → Prop))}
/-- Each condition holds, or its operation has come up. -/
def CondsAt (l : Array Bool) (w : World) : List (Nat × (World → Prop)) → Prop
  | [] => True
  | (k, S) :: cs => (l.getD k true = true ∨ S w) ∧ CondsAt l w cs
theorem CondsAt.get {l : Array Bool} {w : World} : ∀ {cs : List (Nat × (World → Prop))} {m k : Nat} {S : World → Prop}, CondsAt l w cs → cs[m]? = some (k, S) → l.getD k true = true ∨ S w
  | [], m, k, S, _, h => by simp at h
  | (k', S') :: cs, 0, k, S, h, e => by
    simp at e; obtain ⟨rfl, rfl⟩ := e; exact h.1
  | (k', S') :: cs, m + 1, k, S, h, e => CondsAt.get h.2 (by simpa using e)
/-- Operation i is none of the named ones. -/
def notNamed (i : Nat) (cs : List (Nat × (World → Prop))) : Bool := cs.all fun c => c.1 != i
theorem CondsAt.unset {l : Array Bool} {w : World} {i : Nat} : ∀ {cs : List (Nat × (World → Prop))}, notNamed i cs = true → CondsAt (l.setIfInBounds i true) w cs → CondsAt l w cs
  | [], _, _ => trivial
  | (k, S) :: cs, h, hc => by
    unfold notNamed at h
    rw [List.all_cons, Bool.and_eq_true] at h
    have hk : i ≠ k := fun e => by subst e; simp at h
    exact ⟨by have := hc.1; rwa [getD_set_ne true hk] at this, CondsAt.unset h.2 hc.2⟩
theorem condsSet {l : Array Bool} {w : World} {i : Nat} : ∀ {cs : List (Nat × (World → Prop))}, CondsAt l w cs → CondsAt (l.setIfInBounds i true) w cs
  | [], _ => trivial
  | (k, S) :: cs, h => by
    refine ⟨h.1.imp (fun h' => ?_) id, condsSet h.2⟩
    by_cases e : i = k
    · subst e
      rcases Nat.lt_or_ge i l.size with h2 | h2
      · simp [h2]
      · simp [h2]
    · rw [getD_set_ne true e]; exact h'
def wpAnyL (P : Program) (md : Region.Mode) (ops : Array Oper) (Q : Exit → Act → World → Prop) (cs : List (Nat × (World → Prop))) : Nat → Array Bool → Act → World → Prop
  | 0, listed, a, w => Region.ready md ops listed = [] ∧ Q .normal a w
  | fuel + 1, listed, a, w =>
    (Region.ready md ops listed = [] → Q .normal a w) ∧
    ∀ i ∈ Region.ready md ops listed, wpOp P ops Q i (fun a' w' => CondsAt (listed.setIfInBounds i true) w' cs ∧ wpAnyL P md ops Q cs fuel (listed.setIfInBounds i true) a' w') a w
theorem wpAny_of_late : ∀ (fuel : Nat) (listed : Array Bool) (a : Act) (w : World), wpAnyL P md ops Q cs fuel listed a w → wpAny P md ops Q fuel listed a w
  | 0, _, _, _, h => h
  | fuel + 1, _, _, _, h => ⟨h.1, fun i hi => wpOp_mono (fun a' w' h' => wpAny_of_late fuel _ a' w' h'.2) (h.2 i hi)⟩
/-- What has come up in l0 has come up in l. -/
def leqB (l0 l : Array Bool) : Bool := decide (l.size ≤ l0.size) && (List.range l0.size).all fun k => !l0.getD k true || l.getD k true
theorem leqB_spec {l0 l : Array Bool} (h : leqB l0 l = true) {k : Nat} (hk : l0.getD k true = true) : l.getD k true = true := by
  unfold leqB at h
  obtain ⟨h1, h2⟩ := Bool.and_eq_true_iff.1 h
  have h1 := of_decide_eq_true h1
  rcases Nat.lt_or_ge k l0.size with h' | h'
  · have := List.all_eq_true.1 h2 k (List.mem_range.2 h')
    rw [hk] at this
    simpa using this
  · rw [Array.getD_eq_getD_getElem?, Array.getElem?_eq_none (by omega)]; rfl
theorem CondsAt.later {l0 l : Array Bool} {w : World} (hl : leqB l0 l = true) : ∀ {cs : List (Nat × (World → Prop))}, CondsAt l0 w cs → CondsAt l w cs
  | [], _ => trivial
  | (_, _) :: _, h => ⟨h.1.imp (leqB_spec hl) id, CondsAt.later hl h.2⟩
/-- Operation k waits for operation i. -/
def waitsFor (md : Region.Mode) (ops : Array Oper) (k i : Nat) : Bool := match ops[k]? with
  | some o => o.after.any fun e => Region.binds md e && e.on == i
  | none => false
theorem waits_ready {k i : Nat} {listed : Array Bool} (h : waitsFor md ops k i = true) (hi : listed.getD i true = false) : k ∉ Region.ready md ops listed := fun hr => by
  obtain ⟨_, o, ho, hall⟩ := mem_ready.1 hr
  unfold waitsFor at h
  rw [ho] at h
  obtain ⟨e, he, hb⟩ := Array.any_eq_true'.1 h
  rw [Bool.and_eq_true] at hb
  have h1 := hall e he hb.1
  rw [show e.on = i by simpa using hb.2] at h1
  rcases Nat.lt_or_ge i listed.size with h' | h'
  · simp [h'] at hi h1; rw [hi] at h1; cases h1
  · simp [Array.getElem?_eq_none h'] at h1
theorem wpAnyL_first {i k m : Nat} {oi : Oper} {v : Value} {S : World → Prop} (hi : ops[i]? = some oi) (hsel : ∀ (j : Nat) (o : Oper) cs b, ops[j]? = some o → o.op ≠ .select cs b)
    (hQ : ∀ c a w, Q (.panic c) (a.put oi.dst v) w → Q (.panic c) a w) (hm : cs[m]? = some (k, S)) (hnn : notNamed i cs = true) (hkw : waitsFor md ops k i = true) :
    ∀ (fuel : Nat) (listed : Array Bool) (a : Act) (w : World),
      (∀ j oj, ops[j]? = some oj → j ≠ i → listed.getD j true = false → (∀ e ∈ oj.after, Region.binds md e = true → e.on ≠ i) → oi.apart ops oj = true) →
      i ∈ Region.ready md ops listed → listed.getD k true = false → YieldsIf P ops S oi v a → CondsAt listed w cs →
      wpAnyL P md ops Q cs fuel (listed.setIfInBounds i true) (a.put oi.dst v) w → wpAnyL P md ops Q cs (fuel + 1) listed a w := by
  have hik : i ≠ k := fun e => by
    subst e
    unfold notNamed at hnn
    have := List.all_eq_true.1 hnn _ (List.mem_of_getElem? hm)
    simp at this
  intro fuel
  induction fuel with
  | zero =>
    intro listed a w _ hr hk hy hS H
    have hSw : S w := by
      rcases hS.get hm with h | h
      · rw [hk] at h; cases h
      · exact h
    refine ⟨fun h => (by rw [h] at hr; cases hr), fun j hj => ?_⟩
    by_cases hji : j = i
    · subst hji
      refine hy.wpOp hi hSw ⟨?_, H⟩
      exact condsSet hS
    · have := ready_mono hj hji
      rw [H.1] at this
      cases this
  | succ fuel ih =>
    intro listed a w hfree hr hk hy hS H
    have hSw : S w := by
      rcases hS.get hm with h | h
      · rw [hk] at h; cases h
      · exact h
    refine ⟨fun h => (by rw [h] at hr; cases hr), fun j hj => ?_⟩
    by_cases hji : j = i
    · subst hji; exact hy.wpOp hi hSw ⟨condsSet hS, H⟩
    · have h1 := H.2 j (ready_mono hj hji)
      obtain ⟨hjun, oj, hoj, hall⟩ := mem_ready.1 hj
      have hiun := (mem_ready.1 hr).1
      have hjk : j ≠ k := fun e => waits_ready hkw hiun (e ▸ hj)
      have hnot : ∀ e ∈ oj.after, Region.binds md e = true → e.on ≠ i := fun e he hb heq => by
        have h1 := hall e he hb
        have h0 := (mem_ready.1 hr).1
        rw [heq] at h1
        rcases Nat.lt_or_ge i listed.size with h' | h'
        · simp [h'] at h0 h1; rw [h0] at h1; cases h1
        · simp [Array.getElem?_eq_none h'] at h1
      have h2 := wpOp_putIf hoj (hfree j oj hoj hji hjun hnot) (fun cs b => hsel i oi cs b hi) (fun cs b => hsel j oj cs b hoj) hQ hy h1
      have hfree' : ∀ k ok, ops[k]? = some ok → k ≠ i → (listed.setIfInBounds j true).getD k true = false →
          (∀ e ∈ ok.after, Region.binds md e = true → e.on ≠ i) → oi.apart ops ok = true := fun k ok hk hki hun hno => by
        refine hfree k ok hk hki ?_ hno
        by_cases hjk : j = k
        · subst hjk; exact hjun
        · rw [getD_set_ne true hjk] at hun; exact hun
      refine wpOp_mono (fun a' w' h3 => ?_) h2
      have hc := h3.2.1
      rw [Array.setIfInBounds_comm _ _ (Ne.symm hji)] at hc
      have hc := CondsAt.unset hnn hc
      refine ⟨hc, ih (listed.setIfInBounds j true) a' w' hfree' (ready_mono hr (Ne.symm hji)) (by rw [getD_set_ne true hjk]; exact hk) h3.1 hc ?_⟩
      rw [Array.setIfInBounds_comm _ _ hji]
      exact h3.2.2
/-- Take number i first: it yields v in every world that meets condition m, whose operation k waits for i. -/
theorem wpAnyL_take {i : Nat} (m : Nat) {k : Nat} {oi : Oper} {v : Value} {S : World → Prop} {fuel : Nat} {l0 listed : Array Bool} {a : Act} {w : World} (hi : ops[i]? = some oi)
    (hs : Region.noSelect ops = true) (hf : Region.free md ops listed i = true) (hr : (Region.ready md ops listed).contains i = true)
    (hm : cs[m]? = some (k, S)) (hnn : notNamed i cs = true) (hkw : waitsFor md ops k i = true) (hk : listed.getD k true = false)
    (hQ : ∀ c a w, Q (.panic c) (a.put oi.dst v) w → Q (.panic c) a w) (hy : YieldsIf P ops S oi v a) (hS : CondsAt l0 w cs) (hle : leqB l0 listed = true)
    (h : wpAnyL P md ops Q cs fuel (listed.setIfInBounds i true) (a.put oi.dst v) w) : wpAnyL P md ops Q cs (fuel + 1) listed a w :=
  wpAnyL_first hi (Region.noSelect_spec hs) hQ hm hnn hkw fuel listed a w (Region.free_spec hi hf) (by simpa using hr) hk hy (hS.later hle) h
/-- Take number i first: it yields v in whatever world. -/
theorem wpAnyL_free {i : Nat} {oi : Oper} {v : Value} (hi : ops[i]? = some oi) (hsel : ∀ (j : Nat) (o : Oper) cs b, ops[j]? = some o → o.op ≠ .select cs b)
    (hQ : ∀ c a w, Q (.panic c) (a.put oi.dst v) w → Q (.panic c) a w) (hnn : notNamed i cs = true) :
    ∀ (fuel : Nat) (listed : Array Bool) (a : Act) (w : World),
      (∀ j oj, ops[j]? = some oj → j ≠ i → listed.getD j true = false → (∀ e ∈ oj.after, Region.binds md e = true → e.on ≠ i) → oi.apart ops oj = true) →
      i ∈ Region.ready md ops listed → YieldsIf P ops (fun _ => True) oi v a → CondsAt listed w cs →
      wpAnyL P md ops Q cs fuel (listed.setIfInBounds i true) (a.put oi.dst v) w → wpAnyL P md ops Q cs (fuel + 1) listed a w := by
  intro fuel
  induction fuel with
  | zero =>
    intro listed a w _ hr hy hS H
    refine ⟨fun h => (by rw [h] at hr; cases hr), fun j hj => ?_⟩
    by_cases hji : j = i
    · subst hji; exact hy.wpOp hi trivial ⟨condsSet hS, H⟩
    · have := ready_mono hj hji
      rw [H.1] at this
      cases this
  | succ fuel ih =>
    intro listed a w hfree hr hy hS H
    refine ⟨fun h => (by rw [h] at hr; cases hr), fun j hj => ?_⟩
    by_cases hji : j = i
    · subst hji; exact hy.wpOp hi trivial ⟨condsSet hS, H⟩
    · have h1 := H.2 j (ready_mono hj hji)
      obtain ⟨hjun, oj, hoj, hall⟩ := mem_ready.1 hj
      have hnot : ∀ e ∈ oj.after, Region.binds md e = true → e.on ≠ i := fun e he hb heq => by
        have h1 := hall e he hb
        have h0 := (mem_ready.1 hr).1
        rw [heq] at h1
        rcases Nat.lt_or_ge i listed.size with h' | h'
        · simp [h'] at h0 h1; rw [h0] at h1; cases h1
        · simp [Array.getElem?_eq_none h'] at h1
      have h2 := wpOp_putIf hoj (hfree j oj hoj hji hjun hnot) (fun cs b => hsel i oi cs b hi) (fun cs b => hsel j oj cs b hoj) hQ hy h1
      have hfree' : ∀ k ok, ops[k]? = some ok → k ≠ i → (listed.setIfInBounds j true).getD k true = false →
          (∀ e ∈ ok.after, Region.binds md e = true → e.on ≠ i) → oi.apart ops ok = true := fun k ok hk hki hun hno => by
        refine hfree k ok hk hki ?_ hno
        by_cases hjk : j = k
        · subst hjk; exact hjun
        · rw [getD_set_ne true hjk] at hun; exact hun
      refine wpOp_mono (fun a' w' h3 => ?_) h2
      have hc := h3.2.1
      rw [Array.setIfInBounds_comm _ _ (Ne.symm hji)] at hc
      have hc := CondsAt.unset hnn hc
      refine ⟨hc, ih (listed.setIfInBounds j true) a' w' hfree' (ready_mono hr (Ne.symm hji)) h3.1 hc ?_⟩
      rw [Array.setIfInBounds_comm _ _ hji]
      exact h3.2.2
theorem wpAnyL_pure {i : Nat} {oi : Oper} {v : Value} {fuel : Nat} {l0 listed : Array Bool} {a : Act} {w : World} (hi : ops[i]? = some oi)
    (hs : Region.noSelect ops = true) (hf : Region.free md ops listed i = true) (hr : (Region.ready md ops listed).contains i = true) (hnn : notNamed i cs = true)
    (hQ : ∀ c a w, Q (.panic c) (a.put oi.dst v) w → Q (.panic c) a w) (hy : YieldsIf P ops (fun _ => True) oi v a) (hS : CondsAt l0 w cs) (hle : leqB l0 listed = true)
    (h : wpAnyL P md ops Q cs fuel (listed.setIfInBounds i true) (a.put oi.dst v) w) : wpAnyL P md ops Q cs (fuel + 1) listed a w :=
  wpAnyL_free hi (Region.noSelect_spec hs) hQ hnn fuel listed a w (Region.free_spec hi hf) (by simpa using hr) hy (hS.later hle) h
def AllReadyL (P : Program) (md : Region.Mode) (ops : Array Oper) (Q : Exit → Act → World → Prop) (cs : List (Nat × (World → Prop))) (fuel : Nat) (listed : Array Bool) (a : Act) (w : World) (rs : List Nat) : Prop :=
  ∀ i ∈ rs, wpOp P ops Q i (fun a' w' => CondsAt (listed.setIfInBounds i true) w' cs ∧ wpAnyL P md ops Q cs fuel (listed.setIfInBounds i true) a' w') a w
theorem AllReadyL.nil {fuel : Nat} {listed : Array Bool} {a : Act} {w : World} : AllReadyL P md ops Q cs fuel listed a w [] := fun _ h => by cases h
theorem AllReadyL.cons {fuel : Nat} {listed : Array Bool} {a : Act} {w : World} {i : Nat} {o : Oper} {rs : List Nat} (ho : ops[i]? = some o)
    (h : ∀ K' : Act → World → Prop, Shut (∀ a w, CondsAt (listed.setIfInBounds i true) w cs → (CondsAt (listed.setIfInBounds i true) w cs → wpAnyL P md ops Q cs fuel (listed.setIfInBounds i true) a w) → K' a w) → if Region.wanted o (yielded ops a.tmps) = true then Oper.wp P o a w K' Q else K' (a.put o.dst undef) w)
    (hs : AllReadyL P md ops Q cs fuel listed a w rs) : AllReadyL P md ops Q cs fuel listed a w (i :: rs) := fun j hj => by
  rcases List.mem_cons.1 hj with rfl | hj
  · exact wpOp_step ho (fun K' hK => h K' (fun a w hS hW => hK a w ⟨hS, hW hS⟩))
  · exact hs j hj
theorem wpAnyL_ready {rs : List Nat} {fuel : Nat} {listed : Array Bool} {a : Act} {w : World} (hr : Region.ready md ops listed = rs) (hne : rs ≠ [])
    (h : AllReadyL P md ops Q cs fuel listed a w rs) : wpAnyL P md ops Q cs (fuel + 1) listed a w := ⟨fun h0 => absurd (hr ▸ h0) hne, hr ▸ h⟩
theorem wpAnyL_done {listed : Array Bool} {a : Act} {w : World} (hr : Region.ready md ops listed = []) (h : Q .normal a w) :
    ∀ fuel, wpAnyL P md ops Q cs fuel listed a w
  | 0 => ⟨hr, h⟩
  | _ + 1 => ⟨fun _ => h, by rw [hr]; simp⟩
/-- The beginning: the conditions are shown of the world behind the draw. -/
theorem wp_region_late (cs : List (Nat × (World → Prop))) {id : Nat} {a : Act} {w : World} (hm : P.follows .mixedOrders = true) (hS : CondsAt (Array.replicate ops.size false) w.drew cs)
    (h : CondsAt (Array.replicate ops.size false) w.drew cs → wpAnyL P .any ops Q cs ops.size (Array.replicate ops.size false) a w.drew) : (Code.region id ops true).wp P Q a w :=
  wp_region_any hm (wpAny_of_late _ _ _ _ (h hS))
end
end Go.Proofs.Ytbamcpnmabpacaa
