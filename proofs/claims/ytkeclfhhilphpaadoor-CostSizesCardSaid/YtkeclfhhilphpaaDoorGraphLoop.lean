/- graph.Loop (printed by gen-graphloop.py). Conditions: a graph of at most 2^20 places in all rows. -/
import Derived.Test.YtkeclfhhilphpaaDoorGraphMc
import Derived.Test.YtkeclfhhilphpaaDoorGraphLeadsL
import Derived.Test.YtkeclfhhilphpaaDoorRegionsT
import Derived.Test.YtkeclfhhilphpaaDoorShelf
namespace Go.Proofs.YtkeclfhhilphpaaDoor
set_option linter.unusedVariables false
set_option linter.unusedSimpArgs false
open Go.RowKit Go.Proofs.YtkeclfhhilphpaaDoor.GraphPlain
def LoopTold (k : Int) (ok : Bool) (w : World) (e : Ending) (w' : World) : Prop := e = .returned (.tuple #[.int .i64 k, .bool ok]) ∧ Below w.heap.size w w'
theorem reach_self {G : Gr} {i : Nat} (hi : i < G.length) : (reachL G i).contains i = mk (leadsN G i) i := by
  rw [Bool.eq_iff_iff]
  unfold reachL
  simp [hi]
theorem loopN_full {G : Gr} (hG : okG G) : (orderN G).length = G.length ↔ loopN G = -1 := by
  rw [order_full_iff hG]
  constructor
  · intro h
    exact loopN_no fun j hj => by
      cases hm : mk (leadsN G j) j with
      | false => rfl
      | true => exact absurd ⟨j, hj, (leadsN_iff hG j j).1 hm⟩ h
  · rintro h ⟨i, hi, hw⟩
    unfold loopN at h
    cases hf : (List.range G.length).find? (fun i => mk (leadsN G i) i) with
    | some k => rw [hf] at h; exact absurd h (by show ¬ ((k : Nat) : Int) = -1; omega)
    | none =>
      rw [List.find?_eq_none] at hf
      exact hf i (List.mem_range.2 hi) ((leadsN_iff hG i i).2 hw)
theorem loopN_at {G : Gr} {k : Nat} (h : loopN G = (k : Int)) : k < G.length ∧ mk (leadsN G k) k = true ∧ ∀ j, j < k → mk (leadsN G j) j = false := by
  unfold loopN at h
  cases hf : (List.range G.length).find? (fun i => mk (leadsN G i) i) with
  | none => rw [hf] at h; exact absurd h (by show ¬ (-1 : Int) = ((k : Nat) : Int); omega)
  | some i =>
    rw [hf] at h
    obtain rfl : i = k := by have h : ((i : Nat) : Int) = ((k : Nat) : Int) := h; omega
    rw [List.find?_range_eq_some] at hf
    refine ⟨by simpa using hf.2.1, hf.1, fun j hj => ?_⟩
    have := hf.2.2 j hj
    simpa using this
end Go.Proofs.YtkeclfhhilphpaaDoor

