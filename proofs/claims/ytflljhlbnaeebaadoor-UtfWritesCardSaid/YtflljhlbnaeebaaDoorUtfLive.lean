/- Bytes as a string; utf.Len; the page's example (live). Conditions as utf.Runes. -/
import Derived.Test.YtflljhlbnaeebaaDoorUtfEnc
import Derived.Test.YtflljhlbnaeebaaDoorUtfPlain2
import Derived.Laws.BytesArg
namespace Go.Proofs.YtflljhlbnaeebaaDoor
open Go.RowKit Go.Proofs.YtflljhlbnaeebaaDoor.UtfPlain
theorem convB (w : World) (A : Option Addr) (n c : Nat) (xs : List Int) (h : BytesAt w A n xs) : (convert 22 9 (.slice A n c)).run Tryd.prog w = .ok (.string (strOfNums xs)) w := by
  cases A with
  | none =>
    have hn : n = 0 := by
      rcases Nat.eq_zero_or_pos n with h0 | h0
      · exact h0
      · obtain ⟨a, x, h1, _⟩ := h.2 0 h0; cases h1
    have hx : xs = [] := List.length_eq_zero_iff.1 (h.1.trans hn)
    subst hx
    rw [run_convert_bytes_nil w 22 5 Tryd.underlying22 Tryd.underlying5 n c 9 Tryd.underlying9]
    rfl
  | some a =>
    have hl : (loadCells a n).run Tryd.prog w = .ok (xs.map (Value.int .u8)).toArray w := by
      have := run_loadCells_list (P := Tryd.prog) w a (xs.map (Value.int .u8)) (fun j v hj => by
        have hjl : j < xs.length := by
          rcases Nat.lt_or_ge j xs.length with h | h
          · exact h
          · simp [List.getElem?_eq_none (show (xs.map (Value.int .u8)).length ≤ j by simpa using h)] at hj
        obtain ⟨a', x, h1, h2, _, _, _, h3⟩ := h.2 j (by rw [← h.1]; exact hjl)
        cases h1
        rw [h3]
        rw [List.getElem?_map, h2] at hj
        simpa using hj)
      simpa [h.1] using this
    rw [run_convert_bytes_string w 22 9 5 _ n c Tryd.underlying22 Tryd.underlying5 Tryd.underlying9, run_bytesToString w _ n c xs hl, foldl_push_bytes]
    simp [strOfNums, ByteArray.empty, ByteArray.emptyWithCapacity]
    rfl
/-- utf.Len. -/
def TellLen (p : List Int × Option Nat) (w : World) (e : Ending) (w' : World) : Prop :=
  e = .returned (.tuple #[.int .i64 (match p.2 with | some _ => 0 | none => p.1.length), .int .i64 (match p.2 with | some _ => 5 | none => 0)]) ∧ Below w.heap.size w w'
set_option maxHeartbeats 2000000 in
theorem len_any (A : Option Addr) (len cp : Nat) (xs : List Int) (w : World) (hlen : len ≤ 1099511627776) (hcp : len ≤ cp) (hcp2 : cp ≤ 9223372036854775807) (hb : BytesAt w A len xs) (hf : FormsAt w) :
    Calls Tryd.prog 19 #[.slice A len cp] w (TellLen (runes xs) w) := by
  go_enter Tryd.func19, Tryd.ntmps19
  go_wp2_with fail
  refine (runes_any A len cp xs w hlen hcp hcp2 hb hf).mono ?_
  rintro e w' ⟨A2, c2, rfl, hrow, hB⟩
  clear hrow
  cases hp : (runes xs).2 with
  | none =>
    have P := Lib.hid hp
    clear hp
    go_wp2
    go_ret2
    refine ⟨?_, hB⟩
    rw [P.out]
    rfl
  | some i =>
    have P := Lib.hid hp
    clear hp
    go_wp2
    go_ret2
    refine ⟨?_, hB⟩
    rw [P.out]
    rfl
theorem below2_drewN (B : Nat) (w : World) (n : Nat) : Below B w (w.drewN n) := (Below.refl B w).trans ⟨rfl, rfl, rfl, Nat.le_refl _, fun _ _ => rfl⟩
def TellLive (w : World) (e : Ending) (w' : World) : Prop := e = .returned (.bool true) ∧ Below w.heap.size w w'
theorem bytesAt_lit (w : World) (xs : List Int) (g : Nat) (hg : g = w.heap.size) (hl : xs.length ≤ 4) (hx : ∀ x ∈ xs, 0 ≤ x ∧ x ≤ 255) : BytesAt (w.alloc (.cells (byteCells xs).toArray 5)) (some ⟨g, 0, none⟩) xs.length xs := by
  subst hg
  obtain ⟨A, c, h1, h2, _⟩ := madeBytes_lit xs w hl
  cases h1
  exact BytesAt.of_own h2 hx
set_option maxRecDepth 100000 in
set_option maxHeartbeats 2000000 in
theorem live2_any (w : World) (hf : FormsAt w) : Calls Tryd.prog 12 #[] w (TellLive w) := by
  have F := Lib.hid hf
  have e1 : isR 228 = true := by decide
  have e2 : sizeR 228 = 2 := by decide
  have e3 : encL 228 = [195, 164] := by decide
  have e4 : charAt [192, 128] 0 = (0, 0) := by decide +kernel
  have e5 : runes [226, 130, 172] = ([8364], none) := by decide +kernel
  have E1 := Lib.hid e1
  have E2 := Lib.hid e2
  have E3 := Lib.hid e3
  have E4 := Lib.hid e4
  have E5 := Lib.hid e5
  clear e1 e2 e3 e4 e5 hf
  go_enter Tryd.func12, Tryd.ntmps12
  go_wp2_with fail
  refine (encode_any 228 _ F.out).mono ?_
  rintro e w1 ⟨A, c, rfl, hrow, hB1⟩
  rw [E1.out, E2.out] at hrow ⊢
  rw [E3.out] at hrow
  have hcv := fun X (h : Below w1.heap.size w1 X) => convB X A 2 c [195, 164] ((BytesAt.of_own (hrow rfl) (by decide)).below h)
  have HCV := Lib.hid hcv
  clear hrow hcv
  simp only [if_true]
  go_wp2_with fail
  refine (decode_any (some ⟨w1.heap.size, 0, none⟩) 2 2 0 [192, 128] _ (by omega) (by omega) (by omega) (bytesAt_lit w1 [192, 128] _ rfl (by simp) (by decide)) (F.out.below (hB1.alloc hB1.size _) F.out.size) (by omega)).mono ?_
  rintro e w' ⟨rfl, d, rfl⟩
  rw [E4.out]
  simp only [if_true]
  go_wp2_with fail
  refine (len_any _ 3 3 [226, 130, 172] _ (by omega) (by omega) (by omega) ?_ ?_).mono ?_
  · exact bytesAt_lit _ [226, 130, 172] _ (by simp) (by simp) (by decide)
  · exact F.out.below ((Below.trans (hB1.alloc hB1.size _) (below2_drewN _ _ d)).alloc (by simp; have := hB1.size; omega) _) F.out.size
  rintro e w' ⟨rfl, hB3⟩
  rw [E5.out]
  have hc := HCV.out w' ((((Below.trans ((Below.refl _ _).alloc (Nat.le_refl _) _) (below2_drewN _ _ d)).alloc (by simp) _).trans (hB3.mono (by simp; omega))))
  have hs : strOfNums [195, 164] = ⟨#[195, 164]⟩ := by decide +kernel
  rw [hs] at hc
  clear hs
  go_wp2_with fail
  go_ret
  exact ⟨rfl, ((Below.trans (hB1.alloc hB1.size _) (below2_drewN _ _ d)).alloc (by simp; have := hB1.size; omega) _).trans (hB3.mono (by simp; have := hB1.size; omega))⟩
end Go.Proofs.YtflljhlbnaeebaaDoor
