/- The contracts of (sort).end, read and whole, whatever two functions tell which characters may stand. Conditions: the table of forms holds what the text gives it; bytes read as numbers from 0 to 255. -/
import Derived.Test.YtdhgkbghlkhfeaaNameRef
import Derived.Test.YtdhgkbghlkhfeaaUtfDecode
import Derived.Deep.QuietTactic
import Derived.BigQuiet
namespace Go.Proofs.Ytdhgkbghlkhfeaa
open Go.RowKit Go.Proofs.Ytdhgkbghlkhfeaa.UtfPlain Go.Proofs.Ytdhgkbghlkhfeaa.CharsPlain Go.Proofs.Ytdhgkbghlkhfeaa.NamePlain
theorem sortBox (w : World) (u v : Value) (t : TypeId) : ∃ W, w.alloc (.cells #[u, v] t) = W ∧ Below w.heap.size w W ∧ w.heap.size < W.heap.size ∧ W.cell? ⟨w.heap.size, 0, none⟩ = some u ∧ W.cell? ⟨w.heap.size, 1, none⟩ = some v :=
  ⟨_, rfl, (Below.refl _ _).alloc (Nat.le_refl _) _, by simp, by simp, by simp⟩
/-- A function that tells whether a character may stand, in whatever memory grew out of w. -/
def MayF0 (fid : FuncId) (f : Int → Bool) (w : World) : Prop :=
  (∀ (args : Array Value) (W : World), (callFunc fid args).run Try.prog W = .ok (.enter fid args) W) ∧ ∀ (r : Int) (W : World), Below w.heap.size w W → Calls Try.prog fid #[.int .i64 r] W (BelB (f r) W)
theorem MayF0.below {fid : FuncId} {f : Int → Bool} {w W : World} (h : MayF0 fid f w) (hb : Below w.heap.size w W) : MayF0 fid f W := ⟨h.1, fun r V hV => h.2 r V (hb.trans (hV.mono hb.size))⟩
/-- A function that tells whether a character may stand, in whatever memory grew out of w. -/
def MayF1 (fid : FuncId) (cap : Value) (f : Int → Bool) (w : World) : Prop :=
  (∀ (args : Array Value) (W : World), (callFunc fid args).run Try.prog W = .ok (.enter fid args) W) ∧ ∀ (r : Int) (W : World), Below w.heap.size w W → Calls Try.prog fid #[.int .i64 r, cap] W (BelB (f r) W)
theorem MayF1.below {fid : FuncId} {cap : Value} {f : Int → Bool} {w W : World} (h : MayF1 fid cap f w) (hb : Below w.heap.size w W) : MayF1 fid cap f W := ⟨h.1, fun r V hV => h.2 r V (hb.trans (hV.mono hb.size))⟩
end Go.Proofs.Ytdhgkbghlkhfeaa
