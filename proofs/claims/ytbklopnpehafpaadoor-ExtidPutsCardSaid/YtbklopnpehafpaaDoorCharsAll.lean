/- The walk of CharsAll. Conditions: the tables of chars and of utf hold what the text gives them. -/
import Derived.Test.YtbklopnpehafpaaDoorCharsTells
import Derived.Test.YtbklopnpehafpaaDoorCharsRange
import Derived.Test.YtbklopnpehafpaaDoorCharsRAll
import Derived.Test.YtbklopnpehafpaaDoorUtfTexts
namespace Go.Proofs.YtbklopnpehafpaaDoor
open Go.RowKit Go.Proofs.YtbklopnpehafpaaDoor.UtfPlain Go.Proofs.YtbklopnpehafpaaDoor.CharsPlain
theorem urunes_num {p : List Int × Option Nat} {w : World} {e : Ending} {w' : World} (h : TellURunes p w e w') (hp : p.2 = none) :
    ∃ A c, e = .returned (.tuple #[.slice A p.1.length c, .int .i64 0]) ∧ NumsAt w' A p.1.length p.1 ∧ Below w.heap.size w w' := by
  obtain ⟨A, c, h1, h2, h3⟩ := h
  rw [hp] at h1
  exact ⟨A, c, h1, NumsAt.of_own (h2 hp), h3⟩
theorem urunes_no {p : List Int × Option Nat} {w : World} {e : Ending} {w' : World} {i : Nat} (h : TellURunes p w e w') (hp : p.2 = some i) :
    ∃ A c, e = .returned (.tuple #[.slice A 0 c, .int .i64 5]) ∧ Below w.heap.size w w' := by
  obtain ⟨A, c, h1, h2, h3⟩ := h
  rw [hp] at h1
  exact ⟨A, c, h1, h3⟩
set_option maxHeartbeats 1000000 in
theorem call_nil (A : Option Addr) (n cp : Nat) (xs : List Int) (w : World) (hn : n ≤ 1099511627776) (hcp : n ≤ cp) (hcp2 : cp ≤ 9223372036854775807) (hb : BytesAt w A n xs) (hf : FormsAt w) :
    Calls Tryd.prog 20 #[.slice A n cp, .nilFunc] w (BelB false w) := by
  have R := Lib.hid (runes_any A n cp xs w hn hcp hcp2 hb hf)
  have e0 := eql_nil_nil
  clear hf hb
  generalize runes xs = p at *
  cases hq : p.2 with
  | some i =>
    have Q := Lib.hid hq
    clear hq
    go_enter Tryd.func20, Tryd.ntmps20
    go_wp2_with fail
    refine R.out.mono ?_
    intro e w1 h1
    obtain ⟨A1, c1, rfl, hB1⟩ := urunes_no h1 Q.out
    clear h1
    go_wp2
    go_ret
    exact ⟨rfl, hB1⟩
  | none =>
    have Q := Lib.hid hq
    clear hq
    go_enter Tryd.func20, Tryd.ntmps20
    go_wp2_with fail
    refine R.out.mono ?_
    intro e w1 h1
    obtain ⟨A1, c1, rfl, hN, hB1⟩ := urunes_num h1 Q.out
    clear h1 hN
    go_wp2
    go_ret
    exact ⟨rfl, hB1⟩
end Go.Proofs.YtbklopnpehafpaaDoor
