/- Tables of declarations: what they hold, by definition. Plain; no program in sight. -/
import Derived.WalkKit
import Derived.Maps.Own
import Derived.Maps.OwnSet
import Derived.Maps.Views
import Derived.WideShapes
namespace Go.Proofs.YtapjmfgpdkghlaaDoor
open Go.RowKit Go.Maps
set_option linter.unusedVariables false
structure Ent where
  na : ByteArray
  tx : ByteArray
  out : Bool
  pu : ByteArray
  sy : ByteArray
  no : ByteArray
  deriving Inhabited, DecidableEq
/-- An attribute that elements may have. -/
structure DfP where
  na : ByteArray
  ki : Int
  ws : List ByteArray
  mo : Int
  va : ByteArray
  deriving Inhabited, DecidableEq
structure Df where
  p : DfP
  A : Option Addr
  c : Nat
  deriving Inhabited
structure DcP where
  ki : Int
  na : ByteArray
  pm : Bool
  en : Ent
  ds : List DfP
  pu : ByteArray
  sy : ByteArray
  tx : ByteArray
  deriving Inhabited
structure Dc where
  ki : Int
  na : ByteArray
  pm : Bool
  en : Ent
  ds : List Df
  A : Option Addr
  c : Nat
  pu : ByteArray
  sy : ByteArray
  tx : ByteArray
  deriving Inhabited
def Dc.pl (d : Dc) : DcP := ⟨d.ki, d.na, d.pm, d.en, d.ds.map Df.p, d.pu, d.sy, d.tx⟩
def hasT (l : List ByteArray) (x : ByteArray) : Bool := l.any fun y => decide (y = x)
def idxT (ns : List ByteArray) (y : ByteArray) : Nat := (ns.findIdx? fun x => decide (x = y)).getD 0
theorem hasT_snoc (l : List ByteArray) (x y : ByteArray) : hasT (l ++ [y]) x = (hasT l x || decide (y = x)) := by simp [hasT]
theorem hasT_mem {l : List ByteArray} {x : ByteArray} : hasT l x = true ↔ x ∈ l := by
  unfold hasT
  rw [List.any_eq_true]
  exact ⟨fun ⟨y, hy, e⟩ => by have e : y = x := by simpa using e
                              rw [← e]; exact hy, fun h => ⟨x, h, by simp⟩⟩
theorem hasT_no {l : List ByteArray} {x : ByteArray} (h : hasT l x = false) : ∀ z ∈ l, ¬ z = x := fun z hz e => by
  have := hasT_mem.2 (e ▸ hz)
  rw [h] at this; cases this
theorem idxT_is {ns : List ByteArray} {y : ByteArray} (h : hasT ns y = true) : ns[idxT ns y]? = some y := by
  unfold idxT
  cases hf : ns.findIdx? (fun z => decide (z = y)) with
  | none =>
    rw [List.findIdx?_eq_none_iff] at hf
    have := hf y (hasT_mem.1 h)
    simp at this
  | some k =>
    obtain ⟨h1, h2, _⟩ := List.findIdx?_eq_some_iff_getElem.1 hf
    have h2 : ns[k] = y := by simpa using h2
    show ns[k]? = some y
    rw [List.getElem?_eq_getElem h1, h2]
theorem idxT_lt {ns : List ByteArray} {y : ByteArray} (h : hasT ns y = true) : idxT ns y < ns.length := (List.getElem?_eq_some_iff.1 (idxT_is h)).1
theorem idxT_new {ns : List ByteArray} {x : ByteArray} (h : hasT ns x = false) : idxT (ns ++ [x]) x = ns.length := by
  unfold idxT
  have : ns.findIdx? (fun z => decide (z = x)) = none := by
    rw [List.findIdx?_eq_none_iff]
    intro z hz
    simpa using hasT_no h z hz
  rw [List.findIdx?_append, this]
  simp
theorem idxT_other {ns : List ByteArray} {x y : ByteArray} (h : ¬ x = y) : idxT (ns ++ [x]) y = idxT ns y := by
  unfold idxT
  rw [List.findIdx?_append]
  cases ns.findIdx? (fun z => decide (z = y)) with
  | none => simp [h]
  | some k => simp
/-- The map from names to places. -/
def KeyI (D : DataW Unit) (ns : List ByteArray) : Prop := ∀ y : ByteArray, Maps.has D (.string y.data.toList) = hasT ns y ∧ D.atKey (.string y.data.toList) (.lit (.int .i64 0)) = .lit (.int .i64 (idxT ns y))
theorem KeyI.nil : KeyI (.map []) [] := fun y => ⟨rfl, rfl⟩
theorem KeyI.put {D : DataW Unit} {ns : List ByteArray} {x : ByteArray} (h : KeyI D ns) (hm : IsMap D) (hx : hasT ns x = false) : KeyI (D.put (.string x.data.toList) (.lit (.int .i64 (ns.length : Nat)))) (ns ++ [x]) := by
  intro y
  by_cases hyx : x = y
  · subst hyx
    refine ⟨?_, ?_⟩
    · rw [hasT_snoc, decide_eq_true rfl, Bool.or_true]
      exact has_put_same hm (show WideAt.IsKeyLit (.string x.data.toList) from trivial) _
    · rw [atKey_put_same hm (show WideAt.IsKeyLit (.string x.data.toList) from trivial), idxT_new hx]
  · have hne : (Lit.string y.data.toList) ≠ .string x.data.toList := fun e => hyx (Go.WideShapes.bytes_inj (Lit.string.inj e)).symm
    refine ⟨?_, ?_⟩
    · rw [hasT_snoc, decide_eq_false hyx, Bool.or_false, ← (h y).1]
      rw [has_put_other hne]
    · rw [atKey_put_other hne, (h y).2, idxT_other hyx]
/-- The first of each name. -/
def addBy {α : Type} (f : α → ByteArray) (l : List α) (x : α) : List α := if hasT (l.map f) (f x) = true then l else l ++ [x]
def addDs (l : List DfP) (ds : List DfP) : List DfP := ds.foldl (addBy DfP.na) l
structure TSt where
  gens : List Ent
  pars : List Ent
  nots : List (ByteArray × ByteArray × ByteArray)
  els : List (ByteArray × List DfP)
def TSt.nil : TSt := ⟨[], [], [], []⟩
/-- Attributes of an element: its row is there. -/
def putEl (els : List (ByteArray × List DfP)) (name : ByteArray) (ds : List DfP) : List (ByteArray × List DfP) :=
  els.set (idxT (els.map (·.1)) name) (name, addDs (els.getD (idxT (els.map (·.1)) name) (name, [])).2 ds)
def addEl (els : List (ByteArray × List DfP)) (name : ByteArray) (ds : List DfP) : List (ByteArray × List DfP) := putEl (addBy (·.1) els (name, [])) name ds
end Go.Proofs.YtapjmfgpdkghlaaDoor
