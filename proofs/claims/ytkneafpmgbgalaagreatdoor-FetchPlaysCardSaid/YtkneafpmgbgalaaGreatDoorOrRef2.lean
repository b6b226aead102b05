/- The contracts of the reference's Put, Check, One, Same and Great of layer 23. Conditions: at most 2^20 answers. -/
import Derived.Test.YtkneafpmgbgalaaGreatDoorOrRef
import Derived.Test.YtkneafpmgbgalaaGreatDoorBytesStr
import Derived.Deep.QuietTactic
import Derived.Deep.RegionHeld3
namespace Go.Proofs.YtkneafpmgbgalaaGreatDoor
open Go.RowKit Go.Maps Go.Proofs.YtkneafpmgbgalaaGreatDoor.UriPlain
set_option linter.unusedVariables false
set_option linter.unusedSimpArgs false
theorem AnsAt.of_own {w : World} {base c : Nat} {A : Option Addr} {l : List An} (h : w.ownsRow base 51 3 (.slice A l.length c) l.length (anCells l)) (hok : ∀ x ∈ l, AnOk w x) : AnsAt w A l.length l := by
  refine ⟨rfl, fun i hi => ?_⟩
  have hx : l[i]? = some l[i] := List.getElem?_eq_getElem hi
  rcases h.2 with ⟨_, h2⟩ | ⟨g, cap, cur, hv, hg, hh, _⟩
  · omega
  · cases hv
    obtain ⟨h0, h1, h2⟩ := anCells_at l i l[i] hx
    have hc : ∀ j u, (anCells l)[j]? = some u → w.cell? ⟨g, j, none⟩ = some u := fun j u hj => by
      have := h.cells rfl j u hj
      rwa [addGA] at this
    refine ⟨⟨g, 0, none⟩, l[i], rfl, hx, ?_, hok _ (List.getElem_mem hi)⟩
    rw [addGA]
    exact ⟨(h.lt g rfl).2, hc _ _ h0, hc _ _ h1, hc _ _ h2⟩
theorem ownRowA_below {w w' : World} {base : Nat} {e : TypeId} {size : Nat} {v : Value} {n : Nat} {xs : List Value} (h : w.ownsRow base e size v n xs) (hb : Below w.heap.size w w') : w'.ownsRow base e size v n xs := by
  refine ⟨h.1, ?_⟩
  rcases h.2 with h2 | ⟨g, cap, cur, hv, hg, hh, r⟩
  · exact .inl h2
  · exact .inr ⟨g, cap, cur, hv, hg, (hb.block g (Array.getElem?_eq_some_iff.1 hh).1).trans hh, r⟩
theorem ownRowA_shape {w : World} {base : Nat} {e : TypeId} {size : Nat} {v : Value} {n : Nat} {xs : List Value} (h : w.ownsRow base e size v n xs) : ∃ A c, v = .slice A n c ∧ n ≤ c ∧ c ≤ 9223372036854775807 := by
  rcases h.2 with ⟨h1, h2⟩ | ⟨g, cap, cur, rfl, _, _, h3, h4, _⟩
  · exact ⟨none, 0, by rw [h1, h2], by omega, by omega⟩
  · exact ⟨_, _, rfl, h3, by unfold maxLen at h4; exact h4⟩
def TellAnsR (ps : List AnP) (w : World) (e : Ending) (w' : World) : Prop := ∃ A c ys, e = .returned (.slice A ys.length c) ∧ ys.map An.pl = ps ∧ ys.length ≤ c ∧ c ≤ 9223372036854775807 ∧ AnsAt w' A ys.length ys ∧ Below w.heap.size w w'
end Go.Proofs.YtkneafpmgbgalaaGreatDoor
