/- A parameter that is a configuration, as the walks read it. -/
import Derived.Test.YtkneafpmgbgalaaGreatDoorStrsArg
import Derived.Lib.SmallJoins
import Derived.OpenShut
namespace Go.Proofs.YtkneafpmgbgalaaGreatDoor
open Go.RowKit Go.ChangeShapes Go.Deep Go.Joins Go.WideShapes
theorem Tryz.cellsCfg : Tryz.prog.cellsOf 24 = 7 := by kernel_rfl
theorem Tryz.cellsStrsC : Tryz.prog.cellsOf 22 = 1 := by kernel_rfl
theorem Tryz.cellsIntC : Tryz.prog.cellsOf 3 = 1 := by kernel_rfl
def IntB (x : Int) : Prop := -9223372036854775808 ≤ x ∧ x ≤ 9223372036854775807
theorem intB_of {x : Int} (h : (Lit.int .i64 x).wf = true) : IntB x := bounds_i64 h
theorem strs_trod {H : Type} {enc : TypeId × Value → H} {w : World} {base fuel : Nat} {sp : Nat → Bool} {held : Bool} {v : Value} {x : DataW H × List MemPlace}
    (hf : DataW.trod enc Tryz.prog w base sp held fuel 22 [v] = some x) :
    ∃ (A : Option Addr) (n cp : Nat) (l : List ByteArray), v = .slice A n cp ∧ TsAt w A n l ∧ n ≤ cp ∧ cp ≤ 9223372036854775807 ∧ (A = none → n = 0 ∧ cp = 0) := by
  rcases open_strs Tryz.underlying22 Tryz.underlying9 Tryz.cellsArgString hf with ⟨h1, _⟩ | ⟨a, len, cap, m, Sx, h1, _, hl, hm, hmm, _, hx⟩
  · simp at h1
    subst h1
    exact ⟨none, 0, 0, [], rfl, ⟨rfl, fun i hi => by omega⟩, by omega, by omega, fun _ => ⟨rfl, rfl⟩⟩
  · simp at h1
    subst h1
    have hle : len ≤ m := by rw [hmm]; split <;> omega
    refine ⟨some a, len, cap, (List.range len).map Sx, rfl, ⟨by simp, fun i hi => ⟨a, Sx i, rfl, by simp [hi], ?_, (hx i (by omega)).1⟩⟩, hl, by simpa [maxLen] using hm, fun h => by cases h⟩
    have := argCell_block (hx i (by omega)).1
    rwa [addBlockT] at this
set_option maxRecDepth 100000 in
theorem cfg_arg {H : Type} {enc : TypeId × Value → H} {w : World} {base : Nat} {sp : Nat → Bool} {held : Bool} {r : Reach} {b0 : Nat} {v : Value} {d : DataW H} {ps : List MemPlace}
    (hval : Value.okWide Tryz.prog w r b0 24 v) (hd : DataW.Trod enc Tryz.prog w base sp held 24 v d ps) :
    ∃ (a b c e f g : Int) (A : Option Addr) (n cp : Nat) (l : List ByteArray), v = .agg #[.int .i64 a, .int .i64 b, .int .i64 c, .int .i64 e, .int .i64 f, .int .i64 g, .slice A n cp] ∧ TsAt w A n l ∧ n ≤ cp ∧ cp ≤ 9223372036854775807 ∧ (A = none → n = 0 ∧ cp = 0) ∧
      IntB a ∧ IntB b ∧ IntB c ∧ IntB e ∧ IntB f ∧ IntB g := by
  obtain ⟨cs, rfl, hsz⟩ := okWide_struct Tryz.underlying24 hval
  obtain ⟨l⟩ := cs
  match l, hsz.trans Tryz.cellsCfg with
  | [c0, c1, c2, c3, c4, c5, c6], _ =>
    obtain ⟨fuel, hf⟩ := hd
    obtain ⟨xs, n, _, hx, _, hlen, hg⟩ := DataW.trod_struct Tryz.underlying24 hf
    have g0 := hg 0 _ rfl
    have g1 := hg 1 _ rfl
    have g2 := hg 2 _ rfl
    have g3 := hg 3 _ rfl
    have g4 := hg 4 _ rfl
    have g5 := hg 5 _ rfl
    have g6 := hg 6 _ rfl
    match xs, hlen with
    | [y0, y1, y2, y3, y4, y5, y6], _ =>
      simp only [Value.cells, List.getElem_toArray, List.getElem_cons_zero, List.getElem_cons_succ, Tryz.cellsIntC, Tryz.cellsStrsC, List.drop_zero, List.take_succ_cons, List.take_zero, List.drop_succ_cons] at g0 g1 g2 g3 g4 g5 g6
      obtain ⟨a, h0, _, q0⟩ := DataW.trod_int Tryz.underlying3 g0
      obtain ⟨b, h1, _, q1⟩ := DataW.trod_int Tryz.underlying3 g1
      obtain ⟨c, h2, _, q2⟩ := DataW.trod_int Tryz.underlying3 g2
      obtain ⟨e, h3, _, q3⟩ := DataW.trod_int Tryz.underlying3 g3
      obtain ⟨f, h4, _, q4⟩ := DataW.trod_int Tryz.underlying3 g4
      obtain ⟨g, h5, _, q5⟩ := DataW.trod_int Tryz.underlying3 g5
      obtain ⟨A, m, cp, l, rfl, hl, h6, h7, h8⟩ := strs_trod g6
      simp only [List.cons.injEq, and_true] at h0 h1 h2 h3 h4 h5
      subst h0 h1 h2 h3 h4 h5
      exact ⟨a, b, c, e, f, g, A, m, cp, l, rfl, hl, h6, h7, h8, intB_of q0, intB_of q1, intB_of q2, intB_of q3, intB_of q4, intB_of q5⟩
end Go.Proofs.YtkneafpmgbgalaaGreatDoor
