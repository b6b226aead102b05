/- What a script tells: plain lists; no program in sight. -/
import Derived.Test.YtkneafpmgbgalaaGreatDoorAns
import Derived.Test.YtkneafpmgbgalaaGreatDoorUriNorm
namespace Go.Proofs.YtkneafpmgbgalaaGreatDoor
open Go.Proofs.YtkneafpmgbgalaaGreatDoor.UriPlain
/-! What a script tells -/
def nrmA (s : ByteArray) : ByteArray := bS (normU s.data.toList)
def errA (s : ByteArray) : Int := uriE s.data.toList
def canA (a : AnP) : AnP := ⟨nrmA a.id, a.ok, if a.ok then a.da else []⟩
def stepA (out : List AnP) (a : AnP) : List AnP := if errA a.id = 0 ∧ (∀ b ∈ out, b.id ≠ nrmA a.id) then out ++ [canA a] else out
def putA (l : List AnP) : List AnP := l.foldl stepA []
theorem putA_snoc (l : List AnP) (a : AnP) : putA (l ++ [a]) = stepA (putA l) a := by unfold putA; rw [List.foldl_append]; rfl
theorem putA_len (l : List AnP) : (putA l).length ≤ l.length := by
  have : ∀ l out, (List.foldl stepA out l).length ≤ out.length + l.length := by
    intro l
    induction l with
    | nil => intro out; simp
    | cons a l ih =>
      intro out
      rw [List.foldl_cons]
      have h := ih (stepA out a)
      have h2 : (stepA out a).length ≤ out.length + 1 := by unfold stepA; split <;> simp
      rw [List.length_cons]; omega
  have := this l []
  simpa [putA] using this
end Go.Proofs.YtkneafpmgbgalaaGreatDoor
