/- The contracts of diff.Parts and of narthexref42.Parts: which parts of two events are not the same. Conditions: none. -/
import Derived.Test.YtlifdmehejehjaaDoorEvSame
import Derived.LoopN
namespace Go.Proofs.YtlifdmehejehjaaDoor
open Go.RowKit
theorem AtsAt.drewN {w : World} {A : Option Addr} {n : Nat} {l : List At} (h : AtsAt w A n l) (d : Nat) : AtsAt (w.drewN d) A n l := h.below (below_drewN _ _ _)
def RetQ (b : Bool) (w : World) (e : Ending) (w' : World) : Prop := e = .returned (.bool b) ∧ ∃ d, w' = w.drewN d
theorem quietB {P : Program} {f : FuncId} {args : Array Value} {w : World} {n : Nat} {b : Bool} (h : Calls P f args (w.drewN n) (RetQ b (w.drewN n))) :
    Calls P f args (w.drewN n) fun e w'' => e = .returned (.bool b) ∧ ∃ m, w'' = w.drewN m := Calls.quiet_of h
/-- Which parts are not the same: 1, 2, 4, 8. -/
def partsB (b0 b1 b2 b3 : Bool) : Int := (if b0 then 0 else 1) + (if b1 then 0 else 2) + (if b2 then 0 else 4) + (if b3 then 0 else 8)
def partsOf (e f : Ev) : Int := partsB (decide (e.k = f.k)) (decide (e.sp = f.sp ∧ e.lo = f.lo)) (decide (e.ats = f.ats)) (decide (e.tx = f.tx))
theorem partsOf_zero (e f : Ev) : partsOf e f = 0 ↔ sameEv e f = true := by
  unfold partsOf partsB sameEv
  by_cases h0 : e.k = f.k <;> by_cases h1 : (e.sp = f.sp ∧ e.lo = f.lo) <;> by_cases h2 : e.ats = f.ats <;> by_cases h3 : e.tx = f.tx <;> simp [h0, h1, h2, h3]
theorem ats_take {l m : List At} {n n' k : Nat} (hl : l.length = n) (hm : m.length = n') (hn : n = n') (hk : k = n) (h : l.take k = m.take k) : l = m := by
  subst hk hn
  rw [← hl, List.take_length, hl, ← hm, List.take_length] at h
  exact h
end Go.Proofs.YtlifdmehejehjaaDoor
