/- The walk of UtfTexts. Conditions: the table of forms holds what the text gives it. -/
import Derived.Test.YtbklopnpehafpaaDoorUtfText
import Derived.Test.YtbklopnpehafpaaDoorUtfReads
namespace Go.Proofs.YtbklopnpehafpaaDoor
open Go.RowKit Go.Proofs.YtbklopnpehafpaaDoor.UtfPlain
theorem own_cap {w : World} {base size n m c : Nat} {e : TypeId} {A : Option Addr} {xs : List Value} (h : w.ownsRow base e size (.slice A m c) n xs) : n ≤ c ∧ c ≤ 9223372036854775807 ∧ m = n := by
  rcases h.2 with ⟨h1, h2⟩ | ⟨g, cap, cur, h1, _, _, h3, h4, _⟩
  · cases h1; omega
  · cases h1; unfold maxLen at h4; omega
def GiveNums (base : Nat) (ys : List Int) (n : Int) (w : World) (e : Ending) (w' : World) : Prop :=
  ∃ A c, e = .returned (.tuple #[.slice A ys.length c, .int .i64 n]) ∧ w'.ownsRow base 3 1 (.slice A ys.length c) ys.length (intCells ys) ∧ Below base w w'
def GiveNone (n : Int) (w : World) (e : Ending) (w' : World) : Prop :=
  ∃ A c, e = .returned (.tuple #[.slice A 0 c, .int .i64 n]) ∧ Below w.heap.size w w'
theorem urunes_none (A : Option Addr) (len cp : Nat) (xs ys : List Int) (w : World) (hp : runes xs = (ys, none)) (hlen : len ≤ 1099511627776) (hcp : len ≤ cp) (hcp2 : cp ≤ 9223372036854775807) (hb : BytesAt w A len xs) (hf : FormsAt w) :
    Calls Tryd.prog 34 #[.slice A len cp] w (GiveNums w.heap.size ys 0 w) :=
  (runes_any A len cp xs w hlen hcp hcp2 hb hf).mono fun e w' h => by
    rw [hp] at h; obtain ⟨A, c, h1, h2, h3⟩ := h; exact ⟨A, c, h1, h2 rfl, h3⟩
theorem urunes_some (A : Option Addr) (len cp : Nat) (xs ys : List Int) (k : Nat) (w : World) (hp : runes xs = (ys, some k)) (hlen : len ≤ 1099511627776) (hcp : len ≤ cp) (hcp2 : cp ≤ 9223372036854775807) (hb : BytesAt w A len xs) (hf : FormsAt w) :
    Calls Tryd.prog 34 #[.slice A len cp] w (GiveNone 5 w) :=
  (runes_any A len cp xs w hlen hcp hcp2 hb hf).mono fun e w' h => by
    rw [hp] at h; obtain ⟨A, c, h1, h2, h3⟩ := h; exact ⟨A, c, h1, h3⟩
theorem rrunes_none (A : Option Addr) (len cp : Nat) (xs ys : List Int) (w : World) (hp : runes xs = (ys, none)) (hlen : len ≤ 1099511627776) (hb : BytesAt w A len xs) :
    Calls Tryd.prog 37 #[.slice A len cp] w (GiveNums w.heap.size ys (-1) w) :=
  (rrunes_any A len cp xs w hlen hb).mono fun e w' h => by
    rw [hp] at h; obtain ⟨v, h1, ⟨A, c, h2, h4⟩, h3⟩ := h; subst h2; exact ⟨A, c, h1, h4, h3⟩
theorem rrunes_some (A : Option Addr) (len cp : Nat) (xs ys : List Int) (k : Nat) (w : World) (hp : runes xs = (ys, some k)) (hlen : len ≤ 1099511627776) (hb : BytesAt w A len xs) :
    Calls Tryd.prog 37 #[.slice A len cp] w (GiveNone k w) :=
  (rrunes_any A len cp xs w hlen hb).mono fun e w' h => by
    rw [hp] at h; obtain ⟨v, h1, h2, h3⟩ := h
    have h2' : v = .slice none 0 0 := h2
    subst h2'; exact ⟨none, 0, h1, h3⟩
def GiveBytes (xs : List Int) (n : Value) (w : World) (e : Ending) (w' : World) : Prop :=
  ∃ A c, e = .returned (.tuple #[.slice A xs.length c, n]) ∧ BytesAt w' A xs.length xs ∧ xs.length ≤ c ∧ c ≤ 9223372036854775807 ∧ Below w.heap.size w w'
def GiveNo (n : Value) (w : World) (e : Ending) (w' : World) : Prop :=
  ∃ A c, e = .returned (.tuple #[.slice A 0 c, n]) ∧ Below w.heap.size w w'
theorem flat_b (l : List Int) (h : l.all isR = true) : ∀ x ∈ flat l, 0 ≤ x ∧ x ≤ 255 := by
  intro x hx
  obtain ⟨r, hr, hx⟩ := List.mem_flatMap.1 hx
  exact encL_b r (List.all_eq_true.1 h r hr) x hx
theorem scan_len2 (bs : List Int) (f i : Nat) : (scan bs f i).1.length ≤ bs.length - i := by
  induction f generalizing i with
  | zero => simp [scan]
  | succ f ih =>
    unfold scan
    split
    · split
      · simp
      · have := ih (i + (charAt bs i).2)
        simp; omega
    · simp
end Go.Proofs.YtbklopnpehafpaaDoor
