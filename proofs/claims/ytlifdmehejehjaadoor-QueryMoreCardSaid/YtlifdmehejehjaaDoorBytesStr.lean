/- Bytes as a string. -/
import Derived.Test.YtlifdmehejehjaaDoorUtfRef
import Derived.Laws.BytesArg
import Derived.Laws.BytesString
namespace Go.Proofs.YtlifdmehejehjaaDoor
open Go.RowKit Go.Proofs.YtlifdmehejehjaaDoor.UtfPlain
theorem convB (w : World) (A : Option Addr) (n c : Nat) (xs : List Int) (h : BytesAt w A n xs) : (convert 90 9 (.slice A n c)).run Tryd.prog w = .ok (.string (strOfNums xs)) w := by
  cases A with
  | none =>
    have hn : n = 0 := by
      rcases Nat.eq_zero_or_pos n with h0 | h0
      · exact h0
      · obtain ⟨a, x, h1, _⟩ := h.2 0 h0; cases h1
    have hx : xs = [] := List.length_eq_zero_iff.1 (h.1.trans hn)
    subst hx
    rw [run_convert_bytes_nil w 90 5 Tryd.underlying90 Tryd.underlying5 n c 9 Tryd.underlying9]
    rfl
  | some a =>
    have hl : (loadCells a n).run Tryd.prog w = .ok (xs.map (Value.int .u8)).toArray w := by
      have := run_loadCells_list (P := Tryd.prog) w a (xs.map (Value.int .u8)) (fun j v hj => by
        have hjl : j < xs.length := by
          rcases Nat.lt_or_ge j xs.length with h | h
          · exact h
          · simp [List.getElem?_eq_none (show (xs.map (Value.int .u8)).length ≤ j by simpa using h)] at hj
        obtain ⟨a', x, h1, h2, _, _, _, h3⟩ := h.2 j (by rw [← h.1]; exact hjl)
        cases h1
        rw [h3]
        rw [List.getElem?_map, h2] at hj
        simpa using hj)
      simpa [h.1] using this
    rw [run_convert_bytes_string w 90 9 5 _ n c Tryd.underlying90 Tryd.underlying5 Tryd.underlying9, run_bytesToString w _ n c xs hl, foldl_push_bytes]
    simp [strOfNums, ByteArray.empty, ByteArray.emptyWithCapacity]
    rfl
end Go.Proofs.YtlifdmehejehjaaDoor
