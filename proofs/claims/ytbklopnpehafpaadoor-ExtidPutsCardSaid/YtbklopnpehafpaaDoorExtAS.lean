/- Merged texts: ExtAt, ExtSort. -/
import Derived.Test.YtbklopnpehafpaaDoorExtQ
import Derived.Test.YtbklopnpehafpaaDoorNameRead
import Derived.Test.YtbklopnpehafpaaDoorExtPub
import Derived.Lib.SlBytesConst
/- The contract of narthexref08.At over bytes in memory; a prefix in the library's words. Conditions: bytes that Go can hold. -/
namespace Go.Proofs.YtbklopnpehafpaaDoor
open Go.RowKit Go.Proofs.YtbklopnpehafpaaDoor.UtfPlain Go.Proofs.YtbklopnpehafpaaDoor.NamePlain
set_option linter.unusedVariables false
set_option linter.unusedSimpArgs false
/-- Does a text stand at a place? -/
def atN (bs : List Int) (i : Nat) (p : List Int) : Bool := p.isPrefixOf (bs.drop i)
theorem atN_cut (bs : List Int) (i : Nat) (p : List Int) (h : i + p.length ≤ bs.length) : atN bs i p = decide (cut bs i (i + p.length) = p) := by
  unfold atN cut
  rw [Bool.eq_iff_iff, List.isPrefixOf_iff_prefix, decide_eq_true_eq, show i + p.length - i = p.length by omega]
  constructor
  · rintro ⟨t, ht⟩; rw [← ht, List.take_left]
  · intro h1; rw [← h1]; exact List.take_prefix _ _
theorem atN_le {bs : List Int} {i : Nat} {p : List Int} (h : atN bs i p = true) : p.length ≤ bs.length - i := by
  unfold atN at h
  have := (List.isPrefixOf_iff_prefix.1 h).length_le
  rwa [List.length_drop] at this
theorem bytesOf_pre (xs ys : List Int) (hx : ∀ x ∈ xs, 0 ≤ x ∧ x ≤ 255) (hy : ∀ x ∈ ys, 0 ≤ x ∧ x ≤ 255) : Lib.hasPrefix (Lib.bytesOf xs) (Lib.bytesOf ys) = ys.isPrefixOf xs := by
  unfold Lib.hasPrefix Lib.bytesOf
  induction ys generalizing xs with
  | nil => rfl
  | cons y ys ih =>
    cases xs with
    | nil => rfl
    | cons x xs =>
      simp only [List.map_cons, List.isPrefixOf]
      rw [ih xs (fun a h => hx a (List.mem_cons_of_mem _ h)) (fun a h => hy a (List.mem_cons_of_mem _ h))]
      congr 1
      have h1 := hx x (List.mem_cons_self ..)
      have h2 := hy y (List.mem_cons_self ..)
      rw [Bool.eq_iff_iff, beq_iff_eq, beq_iff_eq, ← UInt8.toNat_inj]
      simp
      omega
set_option maxRecDepth 100000 in
set_option maxHeartbeats 2000000 in
theorem at_any (A : Option Addr) (n cp i : Nat) (s : ByteArray) (xs : List Int) (w : World) (hn : n ≤ 1099511627776) (hcp : n ≤ cp) (hcp2 : cp ≤ 9223372036854775807) (hb : BytesAt w A n xs) (hs : 0 < s.size) (hs2 : s.size ≤ 1099511627776) (hi : i ≤ 1099511627776) :
    Calls Tryd.prog 15 #[.slice A n cp, .int .i64 i, .string s] w (RetB (atN xs i (bsOf s)) w) := by
  have b0 : (0 : Int) ≤ (i : Int) := by omega
  have hl := hb.1
  have hsl := bsOf_len s
  obtain ⟨b, hbe⟩ : ∃ b, b = atN xs i (bsOf s) := ⟨_, rfl⟩
  rw [← hbe]
  by_cases hlt : i + s.size ≤ n
  · obtain ⟨a, c, rfl, _, _, _, _, _⟩ := hb.2 i (by omega)
    have hsub := hb.sub (i := i) (j := i + s.size) (by omega) hlt
    rw [show i + s.size - i = s.size by omega] at hsub
    have hcv := fun c' => convB w (some (a.add i)) s.size c' (cut xs i (i + s.size)) hsub
    have hT : ((strOfNums (cut xs i (i + s.size))).toList == s.toList) = b := by
      rw [hbe, show s.size = (bsOf s).length from hsl.symm, atN_cut xs i (bsOf s) (by omega), Bool.eq_iff_iff, beq_iff_eq, decide_eq_true_eq]
      constructor
      · intro h
        have h : strOfNums (cut xs i (i + (bsOf s).length)) = s := by
          rw [ByteArray.toList_eq, ByteArray.toList_eq] at h
          exact ByteArray.ext (Array.toList_inj.1 h)
        have hbd : ∀ x ∈ cut xs i (i + (bsOf s).length), 0 ≤ x ∧ x ≤ 255 := fun x hx => by
          obtain ⟨k, hk, rfl⟩ := List.getElem_of_mem (List.mem_of_mem_drop (List.mem_of_mem_take hx))
          obtain ⟨_, y, _, hy, h0, h1, _, _⟩ := hb.2 k (by omega)
          rw [List.getElem?_eq_getElem hk] at hy
          cases hy
          exact ⟨h0, h1⟩
        rw [← bsOf_strOf _ hbd, h]
      · intro h; rw [h, strOf_bsOf]
    have t1 : (s.size : Int) ≤ (n : Int) - (i : Int) := by omega
    have b1 : (i : Int) ≤ (i : Int) + (s.size : Int) := by omega
    have b2 : (i : Int) + (s.size : Int) ≤ (cp : Int) := by omega
    have b3 : ¬ cp = i := by omega
    have b4 : i + s.size ≤ cp := by omega
    generalize strOfNums (cut xs i (i + s.size)) = X at hcv hT
    have HT := Lib.hid hT
    clear hb hl hT hsub hsl hbe
    go_enter Tryd.func15, Tryd.ntmps15
    go_wp2
    go_ret
    exact ⟨ret_bool HT.out, rfl⟩
  · have t1 : ¬ (s.size : Int) ≤ (n : Int) - (i : Int) := by omega
    have hf : b = false := by
      rw [hbe, Bool.eq_false_iff]
      intro h
      have := atN_le h
      omega
    subst hf
    clear hb hbe hl hsl
    go_enter Tryd.func15, Tryd.ntmps15
    go_wp2
    go_ret
    exact ⟨rfl, rfl⟩
end Go.Proofs.YtbklopnpehafpaaDoor
/- The contracts of extid.sort and extid.blanks. Conditions: bytes that Go can hold. -/
namespace Go.Proofs.YtbklopnpehafpaaDoor
open Go.RowKit Go.Proofs.YtbklopnpehafpaaDoor.UtfPlain Go.Proofs.YtbklopnpehafpaaDoor.NamePlain
set_option linter.unusedVariables false
set_option linter.unusedSimpArgs false
theorem bytesAt_mark (w : World) (xs : List Int) (fr : Nat × Nat) (hx : ∀ x ∈ xs, 0 ≤ x ∧ x ≤ 255) : BytesAt (w.alloc (.cells (byteCells xs).toArray 5 fr)) (some ⟨w.heap.size, 0, none⟩) xs.length xs := by
  refine ⟨rfl, fun k hk => ?_⟩
  have hb := hx _ (List.getElem_mem hk)
  refine ⟨_, xs[k], rfl, List.getElem?_eq_getElem hk, hb.1, hb.2, by simp, ?_⟩
  have ha : (⟨w.heap.size, 0, none⟩ : Addr).add k = ⟨w.heap.size, k, none⟩ := by unfold Addr.add; split <;> simp_all
  rw [ha, World.cell?_alloc_mark]
  simp [byteCells, hk]
theorem bytesIn_of {w : World} {p : Option Addr} {n : Nat} {xs : List Int} (h : BytesAt w p n xs) : Lib.BytesIn w p n xs := by
  intro hn
  obtain ⟨a, x, rfl, _⟩ := h.2 0 hn
  exact (Lib.BytesIn.of_cells (fun i hi => by
    obtain ⟨a', y, ha, hy, _, _, _, hc⟩ := h.2 i hi
    cases ha
    rw [List.getD_eq_getElem?_getD, hy]; exact hc)) hn
def publicB : List Int := [80, 85, 66, 76, 73, 67]
def systemB : List Int := [83, 89, 83, 84, 69, 77]
/-- Which sort of identifier begins so. -/
def sortN (ys : List Int) : Int := if publicB.isPrefixOf ys then 1 else if systemB.isPrefixOf ys then 2 else 0
/-- A prefix that is a literal, asked behind its making. -/
theorem hasPre_lit (p : Option Addr) (m c : Nat) (ys ps : List Int) (w : World) (fr : Nat × Nat) (hmc : m ≤ c) (hb : BytesAt w p m ys) (hps : ∀ x ∈ ps, 0 ≤ x ∧ x ≤ 255) (d : Nat) :
    Calls Tryd.prog 11 #[.slice p m c, .slice (some ⟨w.heap.size, 0, none⟩) ps.length d] (w.alloc (.cells (byteCells ps).toArray 5 fr)) (RetB (ps.isPrefixOf ys) (w.alloc (.cells (byteCells ps).toArray 5 fr))) := by
  have hA : Below w.heap.size w (w.alloc (.cells (byteCells ps).toArray 5 fr)) := (Below.refl _ _).alloc (Nat.le_refl _) _
  have h := Tryd.bytes_HasPrefix_all p (some ⟨w.heap.size, 0, none⟩) m c ps.length d ys ps (w.alloc (.cells (byteCells ps).toArray 5 fr)) hb.1 rfl hmc (bytesIn_of (hb.below hA)) (bytesIn_of (bytesAt_mark w ps fr hps))
  rw [bytesOf_pre ys ps (bytesAt_all hb) hps] at h
  exact h.mono fun e w' ⟨h1, h2⟩ => ⟨h1, h2.symm⟩
set_option maxRecDepth 100000 in
set_option maxHeartbeats 4000000 in
theorem sort_any (p : Option Addr) (m c : Nat) (ys : List Int) (w : World) (hmc : m ≤ c) (hb : BytesAt w p m ys) :
    Calls Tryd.prog 39 #[.slice p m c] w (BelI (sortN ys) w) := by
  have kc := fun (w : World) (C : Array Value) (n c : Nat) => Lib.run_convert_bytes_const (P := Tryd.prog) w 22 5 C n c Tryd.underlying22 Tryd.underlying5
  have P1 := hasPre_lit p m c ys publicB w (6, 7) hmc hb (by decide) 6
  obtain ⟨W1, hW1⟩ : ∃ W1, W1 = w.alloc (.cells (byteCells publicB).toArray 5 (6, 7)) := ⟨_, rfl⟩
  have hB1 : Below w.heap.size w W1 := by rw [hW1]; exact (Below.refl _ _).alloc (Nat.le_refl _) _
  have P2 := hasPre_lit p m c ys systemB W1 (6, 7) hmc (hb.below hB1) (by decide) 6
  obtain ⟨W2, hW2⟩ : ∃ W2, W2 = W1.alloc (.cells (byteCells systemB).toArray 5 (6, 7)) := ⟨_, rfl⟩
  have hB2 : Below w.heap.size w W2 := by rw [hW2]; exact hB1.alloc hB1.size _
  rw [← hW1] at P1
  rw [← hW2] at P2
  obtain ⟨s, hs⟩ : ∃ s, s = sortN ys := ⟨_, rfl⟩
  rw [← hs]
  unfold sortN at hs
  generalize publicB.isPrefixOf ys = t1 at P1 hs
  generalize systemB.isPrefixOf ys = t2 at P2 hs
  have HB1 := Lib.hid hB1
  have HB2 := Lib.hid hB2
  have P1 := Lib.hid P1
  have P2 := Lib.hid P2
  have HS := Lib.hid hs
  have HV1 : W1 = w.alloc (.cells #[.int .u8 80, .int .u8 85, .int .u8 66, .int .u8 76, .int .u8 73, .int .u8 67] 5 (6, 7)) := hW1
  have HV2 : W2 = W1.alloc (.cells #[.int .u8 83, .int .u8 89, .int .u8 83, .int .u8 84, .int .u8 69, .int .u8 77] 5 (6, 7)) := hW2
  have HW1 := Lib.hid HV1
  have HW2 := Lib.hid HV2
  clear hb hB1 hB2 hs hW1 hW2 HV1 HV2
  cases t1 with
  | true =>
    go_enter Tryd.func39, Tryd.ntmps39
    go_wp2_with fail
    rw [← HW1.out]
    refine P1.out.mono ?_
    rintro e w1 ⟨rfl, rfl⟩
    go_wp2
    go_ret
    exact ⟨by rw [HS.out]; rfl, HB1.out⟩
  | false =>
    cases t2 with
    | true =>
      go_enter Tryd.func39, Tryd.ntmps39
      go_wp2_with fail
      rw [← HW1.out]
      refine P1.out.mono ?_
      rintro e w1 ⟨rfl, rfl⟩
      go_wp2_with fail
      rw [← HW2.out]
      refine P2.out.mono ?_
      rintro e w1 ⟨rfl, rfl⟩
      go_wp2
      go_ret
      exact ⟨by rw [HS.out]; rfl, HB2.out⟩
    | false =>
      go_enter Tryd.func39, Tryd.ntmps39
      go_wp2_with fail
      rw [← HW1.out]
      refine P1.out.mono ?_
      rintro e w1 ⟨rfl, rfl⟩
      go_wp2_with fail
      rw [← HW2.out]
      refine P2.out.mono ?_
      rintro e w1 ⟨rfl, rfl⟩
      go_wp2
      go_ret
      exact ⟨by rw [HS.out]; rfl, HB2.out⟩
end Go.Proofs.YtbklopnpehafpaaDoor
