/- The walk of UtfReads. Conditions: the table of forms holds what the text gives it. -/
import Derived.Test.YtbklopnpehafpaaDoorUtfLive
namespace Go.Proofs.YtbklopnpehafpaaDoor
open Go.RowKit Go.Proofs.YtbklopnpehafpaaDoor.UtfPlain
def placeOf (p : List Int × Option Nat) : Int := match p.2 with | some i => (i : Int) | none => -1
def TellPlace (p : Int) (w : World) (e : Ending) (w' : World) : Prop := ∃ v, e = .returned (.tuple #[v, .int .i64 p]) ∧ Below w.heap.size w w'
theorem rrunes_place (A : Option Addr) (n cp : Nat) (xs : List Int) (w : World) (hn : n ≤ 1099511627776) (hb : BytesAt w A n xs) :
    Calls Tryd.prog 37 #[.slice A n cp] w (TellPlace (placeOf (runes xs)) w) :=
  (rrunes_any A n cp xs w hn hb).mono fun _ _ ⟨v, h1, _, h3⟩ => ⟨v, h1, h3⟩
def checkOf (n : Nat) (p : Option Nat) : Int := match p with | some i => (i : Int) | none => (n : Int)
def faultOf (p : Option Nat) : Int := match p with | some _ => 5 | none => 0
def TellCheck' (k f : Int) (w : World) (e : Ending) (w' : World) : Prop := e = .returned (.tuple #[.int .i64 k, .int .i64 f]) ∧ Below w.heap.size w w'
def TellDecode' (r next e : Int) (w : World) (x : Ending) (w' : World) : Prop := x = .returned (.tuple #[.int .i64 r, .int .i64 next, .int .i64 e]) ∧ Below w.heap.size w w'
end Go.Proofs.YtbklopnpehafpaaDoor
