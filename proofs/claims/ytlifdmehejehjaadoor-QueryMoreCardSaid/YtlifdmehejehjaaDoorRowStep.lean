/- An append onto a row of the call's own, as one step of a region that draws its order; the source may be nil. -/
import Derived.Test.YtlifdmehejehjaaDoorDiffPath
import Derived.Laws.OwnMore
import Derived.Deep.RegionHeld3
namespace Go.Proofs.YtlifdmehejehjaaDoor
open Go.RowKit
theorem grown_refl (w : World) (row : Option Nat) : w.grownBy w row := ⟨rfl, rfl, rfl, Nat.le_refl _, fun _ _ _ => rfl⟩
/-- What is appended: nothing of nil, or the cells behind an address. -/
def Source (w : World) (A : Option Addr) (m c : Nat) (news : List Value) : Prop := (A = none → m = 0 ∧ c = 0) ∧ ∀ ad, A = some ad → ∀ j u, news[j]? = some u → w.cell? (ad.add j) = some u
theorem Source.of_own {w : World} {base n c : Nat} {e : TypeId} {A : Option Addr} {xs : List Value} (h : w.ownsRow base e 1 (.slice A n c) n xs) : Source w A n c xs := by
  rcases h.2 with ⟨h1, h2⟩ | ⟨g, cap, cur, h1, _⟩
  · cases h1; exact ⟨fun _ => ⟨rfl, rfl⟩, fun ad h => by cases h⟩
  · cases h1; exact ⟨fun h => (by cases h), fun ad hA j u hj => by cases hA; exact h.cells rfl j u hj⟩
theorem step_own {P : Program} {ops : Array Oper} {o : Oper} {a : Act} {w : World} {K : Act → World → Prop} {Q : Exit → Act → World → Prop} {E : Prop}
    (hg : Region.wanted o (yielded ops a.tmps) = true) (s x : Operand) (t : TypeId) (hop : o.op = Op.call { callee := Callee.builtin Builtin.append, args := #[s, x], argTypes := #[t, t] })
    (base : Nat) (e : TypeId) (i : TypeInfo) (z : Value) (bytes : Nat) (h1 : P.underlying t = some (.slice e)) (h2 : P.info? e = some i) (h3 : i.zero = some z) (h4 : i.size = 1) (h5 : i.bytes = bytes) (h6 : z.cells.size = 1)
    (v : Value) (n : Nat) (xs : List Value) (hs : a.eval s = v) (hown : w.ownsRow base e 1 v n xs)
    (A : Option Addr) (m c : Nat) (news : List Value) (hx : a.eval x = .slice A m c) (hn : news.length = m) (hc : Source w A m c news) (h1c : ∀ u ∈ news, u.oneCell' = true)
    (b1 : n + m ≤ maxLen) (b2 : (n + m) * bytes ≤ 140737488355328) (hb : base ≤ w.heap.size)
    (hK : ∀ v' w', w'.ownsRow base e 1 v' (n + m) (xs ++ news) → w.grownBy w' v.ownBlock → (v'.ownBlock = v.ownBlock ∨ v'.ownBlock = some w.heap.size) → K (a.put o.dst v') w') :
    if Region.wanted o (yielded ops a.tmps) = true then Oper.wp P o a w K Q else E := by
  rw [if_pos hg]
  cases A with
  | none =>
    obtain ⟨rfl, rfl⟩ := hc.1 rfl
    obtain rfl : news = [] := List.eq_nil_of_length_eq_zero hn
    have hrun := run_append_owned_none (P := P) (w := w) base t o.type e i 1 h1 h2 v n xs hown
    unfold Oper.wp
    simp [execOp, hop, resolve, invoke, builtin, hs, hx, hrun, Result.andThen]
    exact hK v w (by simpa using hown) (grown_refl _ _) (.inl rfl)
  | some ad =>
    obtain ⟨v', w', hrun, r1, r2, _, r3⟩ := run_append_own_at (P := P) (w := w) base t o.type e i z 1 bytes h1 h2 h3 h4 h5 h6 (by omega) v n xs hown ad m c news (by omega) (hc.2 ad rfl) h1c b1 b2 hb
    unfold Oper.wp
    simp [execOp, hop, resolve, invoke, builtin, hs, hx, hrun, Result.andThen]
    exact hK v' w' r1 r2 r3
theorem empty_own (w : World) (base : Nat) (t : TypeId) (hb : base ≤ w.heap.size) : (w.alloc (.cells #[] t)).ownsRow base t 1 (.slice (some ⟨w.heap.size, 0, none⟩) 0 0) 0 [] :=
  World.ownsRow_lit w #[] 0 hb (by unfold maxLen; omega) rfl
theorem Source.below {w w' : World} {A : Option Addr} {m c : Nat} {news : List Value} (h : Source w A m c news) (hA : ∀ ad, A = some ad → ad.block < w.heap.size) (hb : Below w.heap.size w w') : Source w' A m c news :=
  ⟨h.1, fun ad e j u hj => (hb.cell (by rw [addBlock]; exact hA ad e)).trans (h.2 ad e j u hj)⟩
theorem Source.grown {w w' : World} {A : Option Addr} {m c : Nat} {news : List Value} {row : Option Nat} (h : Source w A m c news) (hg : w.grownBy w' row) (hA : ∀ ad, A = some ad → some ad.block ≠ row) : Source w' A m c news :=
  ⟨h.1, fun ad e j u hj => hg.cell (h.2 ad e j u hj) (by rw [addBlock]; exact hA ad e)⟩
theorem Source.lit (w : World) (x : Value) (t : TypeId) : Source (w.alloc (.cells #[x] t)) (some ⟨w.heap.size, 0, none⟩) 1 1 [x] := ⟨fun h => (by cases h), fun ad hA j u hj => by cases hA; exact strCell_new w x t j u hj⟩
end Go.Proofs.YtlifdmehejehjaaDoor
