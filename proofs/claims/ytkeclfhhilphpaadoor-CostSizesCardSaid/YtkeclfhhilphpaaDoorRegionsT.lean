/- A region that draws its order: a load may be taken first if the operation that ends its condition waits for it by way of others. Nothing of the program. -/
import Derived.Test.YtkeclfhhilphpaaDoorRegions
namespace Go.Proofs.YtkeclfhhilphpaaDoor
open Go
section
variable {P : Program} {ops : Array Oper} {Q : Exit → Act → World → Prop} {md : Region.Mode} {cs : List (Nat × (World → Prop))}
/-! By way of others: operation k waits for i through those that it waits for. -/
def reachB (md : Region.Mode) (ops : Array Oper) (i : Nat) : Nat → Nat → Bool
  | 0, _ => false
  | n + 1, k => match ops[k]? with
    | some o => o.after.any fun e => Region.binds md e && (e.on == i || reachB md ops i n e.on)
    | none => false
def closedB (md : Region.Mode) (ops : Array Oper) (l : Array Bool) : Bool := (List.range ops.size).all fun j => !l.getD j true || match ops[j]? with
  | some o => o.after.all fun e => !Region.binds md e || l.getD e.on false
  | none => true
def ClosedP (md : Region.Mode) (ops : Array Oper) (l : Array Bool) : Prop := ∀ (j : Nat) (o : Oper), ops[j]? = some o → l.getD j true = true → ∀ e ∈ o.after, Region.binds md e = true → l.getD e.on false = true
theorem closed_of {l : Array Bool} (h : closedB md ops l = true) : ClosedP md ops l := by
  intro j o ho hj e he hb
  have h1 := List.all_eq_true.1 h j (List.mem_range.2 (Array.getElem?_eq_some_iff.1 ho).1)
  rw [hj, ho] at h1
  rw [Bool.not_true, Bool.false_or] at h1
  have h1 : (o.after.all fun e => !Region.binds md e || l.getD e.on false) = true := h1
  have h2 := Array.all_eq_true_iff_forall_mem.1 h1 e he
  rw [hb] at h2
  simpa using h2
theorem ClosedP.set {l : Array Bool} {j : Nat} (h : ClosedP md ops l) (hj : j ∈ Region.ready md ops l) : ClosedP md ops (l.setIfInBounds j true) := by
  obtain ⟨_, oj, hoj, hall⟩ := mem_ready.1 hj
  intro m o ho hm e he hb
  by_cases hjm : j = m
  · subst hjm
    rw [hoj] at ho
    cases ho
    exact getD_set_true (hall e he hb)
  · rw [getD_set_ne true hjm] at hm
    exact getD_set_true (h m o ho hm e he hb)
theorem getD_tt {l : Array Bool} {m : Nat} (h : l.getD m false = true) : l.getD m true = true := by
  rcases Nat.lt_or_ge m l.size with h' | h'
  · simp [h'] at h ⊢; exact h
  · simp [Array.getElem?_eq_none h'] at h
theorem reach_listed {l : Array Bool} (hc : ClosedP md ops l) {i : Nat} : ∀ (n k : Nat), reachB md ops i n k = true → (∀ o, ops[k]? = some o → ∀ e ∈ o.after, Region.binds md e = true → l.getD e.on false = true) → l.getD i false = true
  | 0, k, h, _ => by simp [reachB] at h
  | n + 1, k, h, hk => by
    unfold reachB at h
    cases ho : ops[k]? with
    | none => rw [ho] at h; cases h
    | some o =>
      rw [ho] at h
      obtain ⟨e, he, hb⟩ := Array.any_eq_true'.1 h
      rw [Bool.and_eq_true, Bool.or_eq_true] at hb
      have h1 := hk o ho e he hb.1
      rcases hb.2 with h2 | h2
      · rw [show e.on = i by simpa using h2] at h1; exact h1
      · exact reach_listed hc n e.on h2 fun o' ho' e' he' hb' => hc e.on o' ho' (getD_tt h1) e' he' hb'
theorem wpAnyL_firstT {i k m n : Nat} {oi : Oper} {v : Value} {S : World → Prop} (hi : ops[i]? = some oi) (hsel : ∀ (j : Nat) (o : Oper) cs b, ops[j]? = some o → o.op ≠ .select cs b)
    (hQ : ∀ c a w, Q (.panic c) (a.put oi.dst v) w → Q (.panic c) a w) (hm : cs[m]? = some (k, S)) (hnn : notNamed i cs = true) (hkw : reachB md ops i n k = true) :
    ∀ (fuel : Nat) (listed : Array Bool) (a : Act) (w : World),
      (∀ j oj, ops[j]? = some oj → j ≠ i → listed.getD j true = false → (∀ e ∈ oj.after, Region.binds md e = true → e.on ≠ i) → oi.apart ops oj = true) →
      i ∈ Region.ready md ops listed → listed.getD k true = false → ClosedP md ops listed → YieldsIf P ops S oi v a → CondsAt listed w cs →
      wpAnyL P md ops Q cs fuel (listed.setIfInBounds i true) (a.put oi.dst v) w → wpAnyL P md ops Q cs (fuel + 1) listed a w := by
  intro fuel
  induction fuel with
  | zero =>
    intro listed a w _ hr hk hcl hy hS H
    have hSw : S w := by
      rcases hS.get hm with h | h
      · rw [hk] at h; cases h
      · exact h
    refine ⟨fun h => (by rw [h] at hr; cases hr), fun j hj => ?_⟩
    by_cases hji : j = i
    · subst hji
      refine hy.wpOp hi hSw ⟨?_, H⟩
      exact condsSet hS
    · have := ready_mono hj hji
      rw [H.1] at this
      cases this
  | succ fuel ih =>
    intro listed a w hfree hr hk hcl hy hS H
    have hSw : S w := by
      rcases hS.get hm with h | h
      · rw [hk] at h; cases h
      · exact h
    refine ⟨fun h => (by rw [h] at hr; cases hr), fun j hj => ?_⟩
    by_cases hji : j = i
    · subst hji; exact hy.wpOp hi hSw ⟨condsSet hS, H⟩
    · have h1 := H.2 j (ready_mono hj hji)
      obtain ⟨hjun, oj, hoj, hall⟩ := mem_ready.1 hj
      have hiun := (mem_ready.1 hr).1
      have hjk : j ≠ k := fun e => by
        subst e
        have := reach_listed hcl n j hkw fun o ho e he hb => by
          rw [hoj] at ho; cases ho; exact hall e he hb
        rw [getD_tt this] at hiun; cases hiun
      have hnot : ∀ e ∈ oj.after, Region.binds md e = true → e.on ≠ i := fun e he hb heq => by
        have h1 := hall e he hb
        have h0 := (mem_ready.1 hr).1
        rw [heq] at h1
        rcases Nat.lt_or_ge i listed.size with h' | h'
        · simp [h'] at h0 h1; rw [h0] at h1; cases h1
        · simp [Array.getElem?_eq_none h'] at h1
      have h2 := wpOp_putIf hoj (hfree j oj hoj hji hjun hnot) (fun cs b => hsel i oi cs b hi) (fun cs b => hsel j oj cs b hoj) hQ hy h1
      have hfree' : ∀ k ok, ops[k]? = some ok → k ≠ i → (listed.setIfInBounds j true).getD k true = false →
          (∀ e ∈ ok.after, Region.binds md e = true → e.on ≠ i) → oi.apart ops ok = true := fun k ok hk hki hun hno => by
        refine hfree k ok hk hki ?_ hno
        by_cases hjk : j = k
        · subst hjk; exact hjun
        · rw [getD_set_ne true hjk] at hun; exact hun
      refine wpOp_mono (fun a' w' h3 => ?_) h2
      have hc := h3.2.1
      rw [Array.setIfInBounds_comm _ _ (Ne.symm hji)] at hc
      have hc := CondsAt.unset hnn hc
      refine ⟨hc, ih (listed.setIfInBounds j true) a' w' hfree' (ready_mono hr (Ne.symm hji)) (by rw [getD_set_ne true hjk]; exact hk) (hcl.set hj) h3.1 hc ?_⟩
      rw [Array.setIfInBounds_comm _ _ hji]
      exact h3.2.2
/-- Take number i first: it yields v in every world that meets condition m, whose operation k waits for i, be it by way of others (n of them at most). -/
theorem wpAnyL_takeT {i : Nat} (m n : Nat) {k : Nat} {oi : Oper} {v : Value} {S : World → Prop} {fuel : Nat} {l0 listed : Array Bool} {a : Act} {w : World} (hi : ops[i]? = some oi)
    (hs : Region.noSelect ops = true) (hf : Region.free md ops listed i = true) (hr : (Region.ready md ops listed).contains i = true)
    (hm : cs[m]? = some (k, S)) (hnn : notNamed i cs = true) (hkw : reachB md ops i n k = true) (hk : listed.getD k true = false) (hcl : closedB md ops listed = true)
    (hQ : ∀ c a w, Q (.panic c) (a.put oi.dst v) w → Q (.panic c) a w) (hy : YieldsIf P ops S oi v a) (hS : CondsAt l0 w cs) (hle : leqB l0 listed = true)
    (h : wpAnyL P md ops Q cs fuel (listed.setIfInBounds i true) (a.put oi.dst v) w) : wpAnyL P md ops Q cs (fuel + 1) listed a w :=
  wpAnyL_firstT hi (Region.noSelect_spec hs) hQ hm hnn hkw fuel listed a w (Region.free_spec hi hf) (by simpa using hr) hk (closed_of hcl) hy (hS.later hle) h
end
end Go.Proofs.YtkeclfhhilphpaaDoor
