/- A text cut at each slash; steps of its parts. Plain lists; no program in sight, but for the library's word for a byte's first place. -/
import Derived.Test.YtlifdmehejehjaaDoorQPlain
import Derived.Test.YtlifdmehejehjaaDoorNamePart
import Derived.Lib.IndexLaws
namespace Go.Proofs.YtlifdmehejehjaaDoor.QPlain
open Go.Proofs.YtlifdmehejehjaaDoor Go.Proofs.YtlifdmehejehjaaDoor.NamePlain
def slash (L : List UInt8) (i : Nat) : Int := Lib.indexByte (L.drop i) 47
def cutsF (L : List UInt8) : Nat → Nat → List (Nat × Nat)
  | 0, i => [(i, L.length)]
  | f + 1, i => if 0 ≤ slash L i then (i, i + (slash L i).toNat) :: cutsF L f (i + (slash L i).toNat + 1) else [(i, L.length)]
def cutsN (L : List UInt8) (i : Nat) : List (Nat × Nat) := cutsF L (L.length - i) i
theorem slash_lt {L : List UInt8} {i d : Nat} (h : slash L i = d) : i + d < L.length ∧ L[i + d]? = some 47 ∧ ∀ j, i ≤ j → j < i + d → L[j]? ≠ some 47 := by
  obtain ⟨h1, h2⟩ := Lib.indexByte_some h
  rw [List.getElem?_drop] at h1
  refine ⟨(List.getElem?_eq_some_iff.1 h1).1, h1, fun j hj hd e => h2 (j - i) (by omega) ?_⟩
  rw [List.getElem?_drop, show i + (j - i) = j by omega]; exact e
theorem cutsF_fuel (L : List UInt8) (f g i : Nat) (hf : L.length - i ≤ f) (hg : L.length - i ≤ g) : cutsF L f i = cutsF L g i := by
  induction f generalizing g i with
  | zero =>
    cases g with
    | zero => rfl
    | succ g =>
      simp only [cutsF]
      rw [if_neg]
      intro h
      have := (slash_lt (L := L) (i := i) (d := (slash L i).toNat) (by omega)).1
      omega
  | succ f ih =>
    cases g with
    | zero =>
      simp only [cutsF]
      rw [if_neg]
      intro h
      have := (slash_lt (L := L) (i := i) (d := (slash L i).toNat) (by omega)).1
      omega
    | succ g =>
      simp only [cutsF]
      split
      · rw [ih g _ (by omega) (by omega)]
      · rfl
theorem cutsN_no {L : List UInt8} {i : Nat} (h : slash L i < 0) : cutsN L i = [(i, L.length)] := by
  unfold cutsN
  cases L.length - i with
  | zero => rfl
  | succ f => simp only [cutsF]; rw [if_neg (by omega)]
theorem cutsN_yes {L : List UInt8} {i d : Nat} (h : slash L i = d) : cutsN L i = (i, i + d) :: cutsN L (i + d + 1) := by
  have hl := (slash_lt h).1
  unfold cutsN
  rw [show L.length - i = L.length - i - 1 + 1 by omega]
  simp only [cutsF]
  rw [if_pos (by omega), h]
  simp only [Int.toNat_natCast]
  rw [cutsF_fuel L (L.length - i - 1) (L.length - (i + d + 1)) _ (by omega) (by omega)]
theorem cutsF_len (L : List UInt8) (f i : Nat) : (cutsF L f i).length ≤ f + 1 := by
  induction f generalizing i with
  | zero => simp [cutsF]
  | succ f ih =>
    simp only [cutsF]
    split
    · have := ih (i + (slash L i).toNat + 1); simp; omega
    · simp
theorem cutsN_len (L : List UInt8) : (cutsN L 0).length ≤ L.length + 1 := cutsF_len L _ 0
def partsN (s : ByteArray) (i : Nat) : List ByteArray := (cutsN s.data.toList i).map fun c => s.extract c.1 c.2
/-- A part as a step; does one stand there? -/
def oneN (p : ByteArray) : StN × Bool := if p = ⟨#[42]⟩ then (⟨true, false, ⟨#[]⟩⟩, true) else if p = ⟨#[42, 42]⟩ then (⟨false, true, ⟨#[]⟩⟩, true) else (⟨false, false, p⟩, isN (bsOf p) true)
/-- The steps of parts, or none. -/
def stepsN : List ByteArray → Option (List StN)
  | [] => some []
  | p :: ps => if (oneN p).2 then (stepsN ps).map ((oneN p).1 :: ·) else none
def parseN (s : ByteArray) : List StN × Int := match stepsN (partsN s 0) with
  | none => ([], 7)
  | some l => if 64 < l.length then ([], 13) else (l, 0)
theorem stepsN_len {ps : List ByteArray} {l : List StN} (h : stepsN ps = some l) : l.length = ps.length := by
  induction ps generalizing l with
  | nil => cases h; rfl
  | cons p ps ih =>
    simp only [stepsN] at h
    split at h
    · cases hq : stepsN ps with
      | none => rw [hq] at h; cases h
      | some m => rw [hq] at h; cases h; simp [ih hq]
    · cases h
/-- As far as all parts stand for steps. -/
theorem stepsN_append_ok (ps : List ByteArray) (h : ∀ p ∈ ps, (oneN p).2 = true) (qs : List ByteArray) : stepsN (ps ++ qs) = (stepsN qs).map ((ps.map fun p => (oneN p).1) ++ ·) := by
  induction ps with
  | nil => simp
  | cons p ps ih =>
    simp only [List.cons_append, stepsN]
    rw [if_pos (h p (List.mem_cons_self ..)), ih (fun q hq => h q (List.mem_cons_of_mem _ hq))]
    cases stepsN qs <;> simp
theorem stepsN_bad (ps : List ByteArray) (h : ∀ p ∈ ps, (oneN p).2 = true) (p : ByteArray) (hp : (oneN p).2 = false) (qs : List ByteArray) : stepsN (ps ++ p :: qs) = none := by
  rw [stepsN_append_ok ps h]
  simp [stepsN, hp]
theorem stepsN_all (ps : List ByteArray) (h : ∀ p ∈ ps, (oneN p).2 = true) : stepsN ps = some (ps.map fun p => (oneN p).1) := by
  have := stepsN_append_ok ps h []
  simpa [stepsN] using this
end Go.Proofs.YtlifdmehejehjaaDoor.QPlain
