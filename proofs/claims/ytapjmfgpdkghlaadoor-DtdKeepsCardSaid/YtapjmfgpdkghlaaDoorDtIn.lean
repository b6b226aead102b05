/- Rows of attributes in memory, off a table's blocks. Conditions: none. -/
import Derived.Test.YtapjmfgpdkghlaaDoorDtSub
namespace Go.Proofs.YtapjmfgpdkghlaaDoor
open Go.RowKit Go.Maps
set_option linter.unusedVariables false
set_option linter.unusedSimpArgs false
def Off (P : Nat → Prop) (A : Option Addr) : Prop := ∀ a, A = some a → ¬ P a.block
theorem TsAt.keep {w w' : World} {P : Nat → Prop} {A : Option Addr} {n : Nat} {xs : List ByteArray} (h : TsAt w A n xs) (hk : KeepG w w' P) (ho : 0 < n → Off P A) : TsAt w' A n xs :=
  ⟨h.1, fun k hkn => by
    obtain ⟨a, s, h1, h2, h3, h4⟩ := h.2 k hkn
    refine ⟨a, s, h1, h2, Nat.lt_of_lt_of_le h3 hk.size, (World.cell?_of_block ?_).trans h4⟩
    rw [addBlockT]
    exact hk.block a.block h3 (ho (by omega) a h1)⟩
/-- One attribute's five cells. -/
structure DfCell (w : World) (a : Addr) (d : Df) : Prop where
  lt : a.block < w.heap.size
  c0 : w.cell? a = some (.string d.p.na)
  c1 : w.cell? ⟨a.block, a.off + 1, none⟩ = some (.int .i64 d.p.ki)
  c2 : w.cell? ⟨a.block, a.off + 2, none⟩ = some (.slice d.A d.p.ws.length d.c)
  c3 : w.cell? ⟨a.block, a.off + 3, none⟩ = some (.int .i64 d.p.mo)
  c4 : w.cell? ⟨a.block, a.off + 4, none⟩ = some (.string d.p.va)
theorem DfCell.same {w w' : World} {a : Addr} {d : Df} (h : DfCell w a d) (hs : w.heap.size ≤ w'.heap.size) (hb : w'.heap[a.block]? = w.heap[a.block]?) : DfCell w' a d :=
  ⟨Nat.lt_of_lt_of_le h.lt hs, (World.cell?_of_block hb).trans h.c0, (World.cell?_of_block (a := ⟨a.block, _, none⟩) hb).trans h.c1, (World.cell?_of_block (a := ⟨a.block, _, none⟩) hb).trans h.c2, (World.cell?_of_block (a := ⟨a.block, _, none⟩) hb).trans h.c3, (World.cell?_of_block (a := ⟨a.block, _, none⟩) hb).trans h.c4⟩
def DfsAt (w : World) (A : Option Addr) (n : Nat) (ds : List Df) : Prop := ds.length = n ∧ ∀ i, i < n → ∃ a d, A = some a ∧ ds[i]? = some d ∧ DfCell w (a.add (i * 5)) d ∧ TsAt w d.A d.p.ws.length d.p.ws
theorem DfsAt.keep {w w' : World} {P : Nat → Prop} {A : Option Addr} {n : Nat} {ds : List Df} (h : DfsAt w A n ds) (hk : KeepG w w' P) (ho : Off P A) (hw : ∀ d ∈ ds, 0 < d.p.ws.length → Off P d.A) : DfsAt w' A n ds :=
  ⟨h.1, fun i hi => by
    obtain ⟨a, d, h1, h2, h3, h4⟩ := h.2 i hi
    refine ⟨a, d, h1, h2, h3.same hk.size ?_, h4.keep hk (hw d (List.mem_of_getElem? h2))⟩
    have hl := h3.lt
    rw [addBlockT] at hl ⊢
    exact hk.block a.block hl (ho a h1)⟩
theorem DfsAt.below {w w' : World} {A : Option Addr} {n : Nat} {ds : List Df} (h : DfsAt w A n ds) (hb : Below w.heap.size w w') : DfsAt w' A n ds := h.keep (KeepG.of_below hb (fun _ => False)) (fun _ _ h => h) (fun _ _ _ _ _ h => h)
theorem Off.mono {P Q : Nat → Prop} {A : Option Addr} {N : Nat} (h : Off P A) (hN : ∀ a, A = some a → a.block < N) (hq : ∀ k, Q k → P k ∨ N ≤ k) : Off Q A := fun a ha hk => by
  rcases hq _ hk with h1 | h1
  · exact h a ha h1
  · have := hN a ha; omega
end Go.Proofs.YtapjmfgpdkghlaaDoor
