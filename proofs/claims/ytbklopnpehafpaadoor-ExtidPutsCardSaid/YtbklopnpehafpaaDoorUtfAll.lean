/- The contract of utf.all's iterator: the characters of bytes, one by one, up to the first fault. Conditions: the table of forms holds what the text gives it; bytes read as numbers from 0 to 255. -/
import Derived.Test.YtbklopnpehafpaaDoorUtfDecode
import Derived.Test.YtbklopnpehafpaaDoorUtfRunes
import Derived.RangeFuncNested
import Derived.RangeFuncBound
import Derived.RangeFuncCalls
import Derived.RangeFuncLeaves
import Derived.RangeFuncBox
import Derived.Shelf.Abstract
import Derived.Shelf.RegionOpen
import Derived.OwnWalkIn
import Derived.TacticsInMore
import Derived.LoopNIn
import Derived.LoopIn
namespace Go.Proofs.YtbklopnpehafpaaDoor
open Go.RowKit Go.Shelf Go.Proofs.YtbklopnpehafpaaDoor.UtfPlain
attribute [local go_sem] Oper.semAt_some
/-- What comes of all: each character with 0; where a fault is, its place with 5, and no more. -/
def seqOf (p : List Int × Option Nat) : List (Int × Int) := (p.1.map fun r => ((r, 0) : Int × Int)) ++ (match p.2 with | some i => [(((i : Int), 5) : Int × Int)] | none => [])
def evEnc (p : Int × Int) : Array Value := #[.int .i64 p.1, .int .i64 p.2]
/-- What a round must keep: what lay below, and the box of the bytes. -/
def KpB (n₀ Bs : Nat) (W W' : World) : Prop := Below n₀ W W' ∧ W'.heap[Bs]? = W.heap[Bs]?
theorem KpB.trans {n₀ Bs : Nat} {A B C : World} (h : KpB n₀ Bs A B) (k : KpB n₀ Bs B C) : KpB n₀ Bs A C := ⟨h.1.trans k.1, k.2.trans h.2⟩
theorem KpB.refl (n₀ Bs : Nat) (A : World) : KpB n₀ Bs A A := ⟨Below.refl _ _, rfl⟩
/-- The bytes, in blocks below n₀. -/
def BytesBelow (n₀ : Nat) (w : World) (A : Option Addr) (n : Nat) (xs : List Int) : Prop := BytesAt w A n xs ∧ ∀ a, A = some a → 0 < n → a.block < n₀
theorem BytesBelow.below {n₀ : Nat} {w w' : World} {A : Option Addr} {n : Nat} {xs : List Int} (h : BytesBelow n₀ w A n xs) (hb : Below n₀ w w') : BytesBelow n₀ w' A n xs := by
  refine ⟨⟨h.1.1, fun k hk => ?_⟩, h.2⟩
  obtain ⟨a, x, h1, h2, h3, h4, h5, h6⟩ := h.1.2 k hk
  have hlt := h.2 a h1 (by omega)
  exact ⟨a, x, h1, h2, h3, h4, Nat.lt_of_lt_of_le h5 hb.size, (hb.cell (p := a.add k) (by rw [addBlock]; exact hlt)).trans h6⟩
theorem seqOf_len (xs : List Int) : (seqOf (runes xs)).length ≤ xs.length + 1 := by
  have := scan_len xs xs.length 0
  unfold seqOf runes
  rw [List.length_append, List.length_map]
  split <;> simp <;> omega
set_option maxRecDepth 100000 in
set_option maxHeartbeats 2000000 in
theorem all1_in (n : Nat) (hn : 1 ≤ n) (l Bs n₀ len cp : Nat) (A : Option Addr) (xs : List Int) (hlen : len ≤ 140737488355328) (hcp : len ≤ cp) (hcp2 : cp ≤ 9223372036854775807) (h3 : 3 < n₀) (J Jx : List (Int × Int) → World → Prop)
    (hJd : ∀ s W d, J s W → J s (W.drewN d))
    (hY : ∀ pre x W, J pre W → pre.length < len + 1 → YieldAt Fence.wide (n - 1) Tryd.prog l (evEnc x) W fun e W' =>
      (e = .returned (.bool true) ∧ J (pre ++ [x]) W' ∧ KpB n₀ Bs W W') ∨ (e = .returned (.bool false) ∧ Jx (pre ++ [x]) W'))
    (W : World) (hBs : W.cell? ⟨Bs, 0, none⟩ = some (.slice A len cp)) (hb : BytesBelow n₀ W A len xs) (hf : FormsAt W) (h0 : J [] W) :
    CallsIn Fence.wide n Tryd.prog 63 #[.func (.yield l) #[] #[], .pointer (some ⟨Bs, 0, none⟩)] W fun e W' => (∃ v, e = .returned v) ∧
      ((∃ ys, ys = seqOf (runes xs) ∧ J ys W') ∨ (∃ pre, pre <+: seqOf (runes xs) ∧ Jx pre W')) := by
  have hxl := hb.1.1
  have HX := Lib.hid hxl
  have HB := Lib.hid hb
  have HF := Lib.hid hf
  clear hxl hb hf
  refine callsIn_of_wp Tryd.func63 rfl trivial ?_ rfl
  simp only [Tryd.ntmps63, List.size_toArray, List.length_cons, List.length_nil, Nat.reduceAdd, Nat.reduceSub, Array.replicate_succ, Array.replicate_zero, List.push_toArray, List.append_toArray, List.nil_append, List.cons_append]
  gi_wp2
  gi_loopw [3] (fun i wr => ∃ (k : Nat) (ls : List Int), k ≤ len ∧ ls.length ≤ k ∧ i = .int .i64 k ∧ Hid (runes xs = (ls ++ (scan xs (len - k) k).1, (scan xs (len - k) k).2)) ∧ J (ls.map fun r => ((r, 0) : Int × Int)) wr ∧ Hid (KpB n₀ Bs W wr))
    (fun i _ => len - (intOf i).toNat)
  case atStart => exact ⟨0, [], by omega, by simp, rfl, by show _ = _; unfold runes; rw [HX.out]; rfl, h0, KpB.refl _ _ _⟩
  case round =>
    obtain ⟨k, ls, hk, hls, rfl, HE, hJ, HK⟩ := hrel
    have hbox : wr.cell? ⟨Bs, 0, none⟩ = some (.slice A len cp) := by
      rw [← hBs]; exact World.cell?_of_block (w := W) (a := ⟨Bs, 0, none⟩) HK.out.2
    have HBk := Lib.hid (HB.out.below HK.out.1)
    have HFk := Lib.hid (HF.out.below HK.out.1 h3)
    by_cases hlt : k < len
    · by_cases hz : (charAt xs k).2 = 0
      · have hbad := scan_bad xs (len - k) k (by omega) (by rw [HX.out]; exact hlt) hz
        have E2 : Hid (seqOf (runes xs) = (ls.map fun r => ((r, 0) : Int × Int)) ++ [((k : Int), 5)]) := by show _ = _; rw [HE.out, hbad]; simp [seqOf]
        gi_wp2_with fail
        refine ⟨trivial, ?_⟩
        refine (callsIn_wide.2 (decode_any A len cp k xs wr hlen hcp hcp2 HBk.out.1 HFk.out hlt)).mono ?_
        rintro e w1 ⟨rfl, d, rfl⟩
        rw [if_pos hz, if_pos hz, if_pos hz]
        obtain ⟨fn, tmps, assign, body, hy, hR⟩ := hY _ ((k : Int), 5) (wr.drewN d) (hJd _ _ d hJ) (by rw [List.length_map]; omega)
        dsimp only [evEnc] at hy
        clear hbad hz HE
        gi_wp2
        refine hR.mono ?_
        rintro e W3 (⟨rfl, hJ3, hk3⟩ | ⟨rfl, hJx3⟩)
        · gi_wp2
          refine bodyPost_ret (results_none rfl _ _ _) rfl ?_
          exact ⟨⟨_, rfl⟩, .inl ⟨_, rfl, by rw [E2.out]; exact hJ3⟩⟩
        · gi_wp2
          refine bodyPost_ret (results_none rfl _ _ _) rfl ?_
          exact ⟨⟨_, rfl⟩, .inr ⟨_, by rw [E2.out]; exact List.prefix_refl _, hJx3⟩⟩
      · have hok := scan_ok xs k (by rw [HX.out]; exact hlt) hz
        rw [HX.out] at hok
        have hin := charAt_in xs k (by rw [HX.out]; exact hlt)
        rw [HX.out] at hin
        have E2 : Hid (runes xs = ((ls ++ [(charAt xs k).1]) ++ (scan xs (len - (k + (charAt xs k).2)) (k + (charAt xs k).2)).1, (scan xs (len - (k + (charAt xs k).2)) (k + (charAt xs k).2)).2)) := by
          show _ = _; rw [HE.out, hok]; simp
        have E3 : Hid (((ls.map fun r => ((r, 0) : Int × Int)) ++ [((charAt xs k).1, 0)]) <+: seqOf (runes xs)) := by
          show _ <+: _
          rw [E2.out]; simp [seqOf]
        clear hok HE
        generalize hp : charAt xs k = p at *
        obtain ⟨r, m⟩ := p
        have P := Lib.hid hp
        simp only at hz hin E2 E3
        have hm : 1 ≤ m := by omega
        clear hp
        gi_wp2_with fail
        refine ⟨trivial, ?_⟩
        refine (callsIn_wide.2 (decode_any A len cp k xs wr hlen hcp hcp2 HBk.out.1 HFk.out hlt)).mono ?_
        rintro e w1 ⟨rfl, d, rfl⟩
        rw [P.out, if_neg hz, if_neg hz, if_neg hz]
        obtain ⟨fn, tmps, assign, body, hy, hR⟩ := hY _ (r, 0) (wr.drewN d) (hJd _ _ d hJ) (by rw [List.length_map]; omega)
        dsimp only [evEnc] at hy
        clear hz
        gi_wp2
        refine hR.mono ?_
        rintro e W3 (⟨rfl, hJ3, hk3⟩ | ⟨rfl, hJx3⟩)
        · gi_wp2
          go_roundw
          case rel => exact ⟨k + m, ls ++ [r], by omega, by simp; omega, by go_num, E2, by rw [List.map_append]; exact hJ3, HK.out.trans ⟨⟨hk3.1.os, hk3.1.tape, hk3.1.output, hk3.1.size, hk3.1.block⟩, hk3.2⟩⟩
          case measure => simp [intOf]; omega
        · gi_wp2
          refine bodyPost_ret (results_none rfl _ _ _) rfl ?_
          exact ⟨⟨_, rfl⟩, .inr ⟨_, E3.out, hJx3⟩⟩
    · obtain rfl : k = len := by omega
      have he := scan_end xs (k - k) k (by rw [HX.out]; exact Nat.le_refl _)
      have E2 : seqOf (runes xs) = ls.map fun r => ((r, 0) : Int × Int) := by rw [HE.out, he]; simp [seqOf]
      gi_wp2
      go_end0
      exact ⟨⟨_, rfl⟩, .inl ⟨_, E2.symm, hJ⟩⟩
theorem boxed_keep {X Y : World} {row : Option Nat} {B : Nat} {t : TypeId} {v : Value} (h : Boxed X B t v) (hg : X.grownBy Y row) (hr : ∀ r, row = some r → ∃ o : Obj, X.heap[r]? = some o ∧ o.isCells = false) : Boxed Y B t v := by
  refine h.kept hg (fun e => ?_)
  obtain ⟨o, ho, hc⟩ := hr B e.symm
  rw [show X.heap[B]? = _ from h] at ho; cases ho; cases hc
theorem boxed_far {W : World} {B B' : Nat} {t : TypeId} {v u : Value} (h : Boxed W B t v) (hne : B ≠ B') : Boxed (W.setCell ⟨B', 0, none⟩ u) B t v := h.kept (grownBy_setCell' W B' u) (by simpa using hne)
theorem abides_drewN {β : Type} {B : Nat} {J : β → World → Prop} (h : AbidesFrom B J) (s : β) (W : World) (d : Nat) (hj : J s W) : J s (W.drewN d) :=
  h s W _ none hj ⟨rfl, rfl, rfl, Nat.le_refl _, fun _ _ _ => rfl⟩ (fun r e => by cases e)
/-- The iterator stops after the whole row, or where a round says so. -/
theorem all_stops (n : Nat) (hn : 1 ≤ n) (Bs n₀ len cp : Nat) (A : Option Addr) (xs : List Int) (hlen : len ≤ 140737488355328) (hcp : len ≤ cp) (hcp2 : cp ≤ 9223372036854775807) (h3 : 3 < n₀) (w : World) (hBs : Bs < w.heap.size) (hn₀ : n₀ ≤ w.heap.size)
    (hc : w.cell? ⟨Bs, 0, none⟩ = some (.slice A len cp)) (hb : BytesBelow n₀ w A len xs) (hf : FormsAt w) :
    SeqStopsK Fence.wide n Tryd.prog 63 #[.pointer (some ⟨Bs, 0, none⟩)] evEnc (KpB n₀ Bs) (fun ys => ys = seqOf (runes xs)) (fun pre => pre <+: seqOf (runes xs)) (len + 1) w := fun l J Jx W hW hJ _ hY h0 =>
  all1_in n hn l Bs n₀ len cp A xs hlen hcp hcp2 h3 J Jx (fun s W d hj => abides_drewN hJ s W d hj) hY W ((hW.cell (p := ⟨Bs, 0, none⟩) hBs).trans hc) (hb.below (hW.mono hn₀)) (hf.below (hW.mono hn₀) h3) h0
theorem all_any (A : Option Addr) (len cp : Nat) (w : World) :
    Calls Tryd.prog 49 #[.slice A len cp] w fun e w' => e = .returned (.func (.func 63) #[] #[.pointer (some ⟨w.heap.size, 0, none⟩)]) ∧ w' = w.alloc (.cells #[.slice A len cp] 22) := by
  go_enter Tryd.func49, Tryd.ntmps49
  go_wp2
  go_ret
  exact ⟨rfl, rfl⟩
theorem KpB_put {n₀ Bs B : Nat} (hB : n₀ ≤ B) (hs : Bs < B) (W : World) (l : Nat) (o o' : Obj) (hl : B ≤ l) (_h : W.heap[l]? = some o) (_ : o.isCells = false) (_ : o.isWalk = false) : KpB n₀ Bs W (W.putObj l o') := by
  have hg := grownBy_putObj' W l o'
  refine ⟨⟨hg.os, hg.tape, hg.output, hg.size, fun k hk => ?_⟩, World.putObj_heap_other (by omega)⟩
  exact World.putObj_heap_other (by omega)
theorem BytesBelow.of_at {w : World} {A : Option Addr} {n : Nat} {xs : List Int} (h : BytesAt w A n xs) : BytesBelow w.heap.size w A n xs :=
  ⟨h, fun a ha hn => by
    obtain ⟨a', x, h1, _, _, _, h5, _⟩ := h.2 0 hn
    rw [ha] at h1; injection h1 with h1; rw [h1]; exact h5⟩
/-- What Check tells: the place of the first fault, or the end. -/
def TellCheck (len : Nat) (p : Option Nat) (w : World) (e : Ending) (w' : World) : Prop :=
  e = .returned (.tuple #[.int .i64 (match p with | some i => (i : Int) | none => (len : Int)), .int .i64 (match p with | some _ => 5 | none => 0)]) ∧ Below w.heap.size w w'
theorem seqOf_fault {p : List Int × Option Nat} {q : List (Int × Int)} {r e : Int} (h : q ++ [(r, e)] <+: seqOf p) (he : e ≠ 0) : ∃ i : Nat, p.2 = some i ∧ r = i ∧ e = 5 := by
  obtain ⟨l, o⟩ := p
  have hm : (r, e) ∈ seqOf (l, o) := h.subset (by simp)
  unfold seqOf at hm
  rcases List.mem_append.1 hm with hm | hm
  · simp at hm
    obtain ⟨_, _, _, h2⟩ := hm
    exact absurd h2.symm he
  · cases o with
    | none => simp at hm
    | some i => simp at hm; exact ⟨i, rfl, hm.1, hm.2⟩
theorem seqOf_clean {p : List Int × Option Nat} (h : ∀ x ∈ seqOf p, x.2 = 0) : p.2 = none := by
  obtain ⟨l, o⟩ := p
  cases o with
  | none => rfl
  | some i =>
    have := h ((i : Int), 5) (by simp [seqOf])
    simp at this
end Go.Proofs.YtbklopnpehafpaaDoor
