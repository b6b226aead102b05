/- The contracts of the reference of layer 3 (narthexref03): each class, the digit, the classes' number. Conditions: integer arguments are any. -/
import Derived.Test.YtlifdmehejehjaaDoorPlainA
import Derived.Test.YtlifdmehejehjaaDoorProg
import Derived.WalkKit
import Derived.Outline
import Derived.WalkLawsBesides
import Derived.Lib.Hide
namespace Go.Proofs.YtlifdmehejehjaaDoor
open Go.RowKit Go.Proofs.YtlifdmehejehjaaDoor.CharsPlain
/-- 'returns the Bool b (the number n), and the world is as it was'. -/
def RetB (b : Bool) (w : World) (e : Ending) (w' : World) : Prop := e = .returned (.bool b) ∧ w = w'
def RetI (n : Int) (w : World) (e : Ending) (w' : World) : Prop := e = .returned (.int .i64 n) ∧ w = w'
theorem ret_bool {a b : Bool} (h : a = b) : Ending.returned (.bool a) = .returned (.bool b) := by rw [h]
theorem ret_int {k : IntKind} {a b : Int} (h : a = b) : Ending.returned (.int k a) = .returned (.int k b) := by rw [h]
/-- The signs' text. -/
def signBytes : ByteArray := ⟨#[45, 39, 40, 41, 43, 44, 46, 47, 58, 61, 63, 59, 33, 42, 35, 64, 36, 95, 37]⟩
theorem sign_at (s : ByteArray) (hs : s = signBytes) (k : Nat) (hk : k < s.size) : ∃ z : Int, wrap64 (s[k].toNat : Int) = z ∧ signs[k]? = some z := by
  subst hs
  have h : ∀ k : Fin 19, signs[k.val]? = some (wrap64 ((signBytes.data.getD k.val 0).toNat : Int)) := by decide +kernel
  have hk' : k < 19 := hk
  refine ⟨_, rfl, ?_⟩
  rw [h ⟨k, hk'⟩]
  have e : signBytes.data.getD k 0 = signBytes[k] := by
    show _ = signBytes.data[k]
    rw [Array.getD_eq_getD_getElem?, Array.getElem?_eq_getElem (by exact hk)]; rfl
  rw [e]; rfl
/-- The digits' two texts. -/
def lowBytes : ByteArray := ⟨#[48, 49, 50, 51, 52, 53, 54, 55, 56, 57, 97, 98, 99, 100, 101, 102]⟩
def upBytes : ByteArray := ⟨#[48, 49, 50, 51, 52, 53, 54, 55, 56, 57, 65, 66, 67, 68, 69, 70]⟩
theorem low_at (s : ByteArray) (hs : s = lowBytes) (k : Nat) (hk : k < s.size) : ∃ z : Int, wrap64 (s[k].toNat : Int) = z ∧ lowZ[k]? = some z := by
  subst hs
  have h : ∀ k : Fin 16, lowZ[k.val]? = some (wrap64 ((lowBytes.data.getD k.val 0).toNat : Int)) := by decide +kernel
  have hk' : k < 16 := hk
  refine ⟨_, rfl, ?_⟩
  rw [h ⟨k, hk'⟩]
  have e : lowBytes.data.getD k 0 = lowBytes[k] := by
    show _ = lowBytes.data[k]
    rw [Array.getD_eq_getD_getElem?, Array.getElem?_eq_getElem (by exact hk)]; rfl
  rw [e]; rfl
theorem up_at (s : ByteArray) (hs : s = upBytes) (k : Nat) (hk : k < s.size) : ∃ z : Int, wrap64 (s[k].toNat : Int) = z ∧ upZ[k]? = some z := by
  subst hs
  have h : ∀ k : Fin 16, upZ[k.val]? = some (wrap64 ((upBytes.data.getD k.val 0).toNat : Int)) := by decide +kernel
  have hk' : k < 16 := hk
  refine ⟨_, rfl, ?_⟩
  rw [h ⟨k, hk'⟩]
  have e : upBytes.data.getD k 0 = upBytes[k] := by
    show _ = upBytes.data[k]
    rw [Array.getD_eq_getD_getElem?, Array.getElem?_eq_getElem (by exact hk)]; rfl
  rw [e]; rfl
end Go.Proofs.YtlifdmehejehjaaDoor
