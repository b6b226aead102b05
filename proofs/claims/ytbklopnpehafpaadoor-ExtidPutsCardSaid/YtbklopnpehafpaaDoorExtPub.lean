/- Merged texts: ExtRPub, ExtLPub. -/
import Derived.Test.YtbklopnpehafpaaDoorExtLQuote
import Derived.Test.YtbklopnpehafpaaDoorCharsRAll
import Derived.Test.YtbklopnpehafpaaDoorCharsAllP
import Derived.Shelf.Abstract
/- The contract of narthexref07.Public. Conditions: at most 2^20 bytes. -/
namespace Go.Proofs.YtbklopnpehafpaaDoor
open Go.RowKit Go.Proofs.YtbklopnpehafpaaDoor.UtfPlain Go.Proofs.YtbklopnpehafpaaDoor.NamePlain Go.Proofs.YtbklopnpehafpaaDoor.CharsPlain
set_option linter.unusedVariables false
set_option linter.unusedSimpArgs false
theorem quoteN_mem (xs : List Int) (at_ : Int) : ∀ x ∈ (quoteN xs at_).1, x ∈ xs := by
  intro x hx
  unfold quoteN at hx
  split at hx
  · cases hx
  · split at hx
    · cases hx
    · split at hx
      · unfold cut at hx
        exact List.mem_of_mem_drop (List.mem_of_mem_take hx)
      · cases hx
theorem quoteN_len (xs : List Int) (at_ : Int) : (quoteN xs at_).1.length ≤ xs.length := by
  unfold quoteN
  split
  · simp
  · split
    · simp
    · split
      · unfold cut; simp; omega
      · simp
theorem bytesAt_all {w : World} {A : Option Addr} {n : Nat} {xs : List Int} (hb : BytesAt w A n xs) : ∀ x ∈ xs, 0 ≤ x ∧ x ≤ 255 := fun x hx => by
  obtain ⟨i, hi, rfl⟩ := List.getElem_of_mem hx
  obtain ⟨_, y, _, hy, h0, h1, _, _⟩ := hb.2 i (by rw [← hb.1]; exact hi)
  rw [List.getElem?_eq_getElem hi] at hy
  cases hy
  exact ⟨h0, h1⟩
set_option maxRecDepth 100000 in
set_option maxHeartbeats 4000000 in
theorem rpublic_any (A : Option Addr) (n cp : Nat) (at_ : Int) (xs : List Int) (w : World) (hn : n ≤ 1048576) (hcp : n ≤ cp) (hcp2 : cp ≤ 9223372036854775807) (hb : BytesAt w A n xs) :
    Calls Tryd.prog 31 #[.slice A n cp, .int .i64 at_] w (TellRead (pubN xs at_) w) := by
  have C := rquoted_any A n cp at_ xs w (by omega) hcp hcp2 hb
  obtain ⟨p, hp⟩ : ∃ p, p = pubN xs at_ := ⟨_, rfl⟩
  rw [← hp]
  unfold pubN at hp
  have hm := quoteN_mem xs at_
  have hll := quoteN_len xs at_
  rw [hb.1] at hll
  have hx := bytesAt_all hb
  generalize quoteN xs at_ = q at C hp hm hll
  obtain ⟨q1, q2, q3⟩ := q
  dsimp only at hp hm hll
  obtain ⟨s, hs⟩ : ∃ s, s = strOfNums q1 := ⟨_, rfl⟩
  have hbs : bsOf s = q1 := by rw [hs]; exact bsOf_strOf q1 (fun x h => hx x (hm x h))
  have hsz : s.size ≤ 1048576 := by rw [← bsOf_len, hbs]; omega
  unfold TellRead at C
  dsimp only at C
  rw [← hs] at C
  have C := Lib.hid C
  have HP := Lib.hid hp
  have HS := Lib.hid hs
  have HBS := Lib.hid hbs
  clear hb hp hm hll hx hs hbs
  by_cases h0 : q3 = 0
  · subst h0
    have HQ : Hid (p = if pubK (runes q1) then (q1, q2, 0) else ([], 0, 7)) := by show _ = _; rw [HP.out]; rfl
    go_enter Tryd.func31, Tryd.ntmps31
    go_wp2_with fail
    refine C.out.mono ?_
    rintro e w1 ⟨rfl, hb1⟩
    have hcv := Lib.run_convert_string_bytes (P := Tryd.prog) w1 9 22 5 s Tryd.underlying9 Tryd.underlying22 Tryd.underlying5
    have RA := rcall_any 4 (some ⟨w1.heap.size, 0, none⟩) s.size (grownCap w1 s.size 0 5) (bsOf s) _ (by omega) (by omega) (bytesWorld_bytes w1 s)
    rw [HBS.out, show allK 4 (runes q1) = pubK (runes q1) from rfl] at RA
    generalize pubK (runes q1) = b at RA HQ
    have RA := Lib.hid RA
    have HC := Lib.hid (hb1.trans ((bytesWorld_below w1 s).mono hb1.size))
    clear hb1
    cases b with
    | true =>
      go_wp2_with fail
      refine RA.out.mono ?_
      rintro e w2 ⟨rfl, hb2⟩
      go_wp2
      go_ret3
      rw [HQ.out]
      exact ⟨by rw [HS.out]; rfl, HC.out.trans (hb2.mono HC.out.size)⟩
    | false =>
      go_wp2_with fail
      refine RA.out.mono ?_
      rintro e w2 ⟨rfl, hb2⟩
      go_wp2
      go_ret3
      rw [HQ.out]
      exact ⟨rfl, HC.out.trans (hb2.mono HC.out.size)⟩
  · have HQ : Hid (p = ([], 0, q3)) := by show _ = _; rw [HP.out, if_pos h0]
    have t1 : (q3 == 0) = false := by simpa using h0
    have t2 : (q3 != 0) = true := by simpa using h0
    go_enter Tryd.func31, Tryd.ntmps31
    go_wp2_with fail
    refine C.out.mono ?_
    rintro e w1 ⟨rfl, hb1⟩
    go_wp2
    go_ret3
    rw [HQ.out]
    exact ⟨rfl, hb1⟩
end Go.Proofs.YtbklopnpehafpaaDoor
/- The contracts of lit.read at one rule and of lit.Public. Conditions: at most 2^20 bytes; the tables of chars and of utf hold what the text gives them. -/
namespace Go.Proofs.YtbklopnpehafpaaDoor
open Go.RowKit Go.Shelf Go.Proofs.YtbklopnpehafpaaDoor.UtfPlain Go.Proofs.YtbklopnpehafpaaDoor.NamePlain Go.Proofs.YtbklopnpehafpaaDoor.CharsPlain
set_option linter.unusedVariables false
set_option linter.unusedSimpArgs false
def RetIB (k : Int) (w : World) (e : Ending) (w' : World) : Prop := e = .returned (.int .i64 k) ∧ Below w.heap.size w w'
set_option maxRecDepth 100000 in
set_option maxHeartbeats 4000000 in
theorem lpub1_any (s : ByteArray) (w : World) (hs : s.size ≤ 1048576) (hf : FormsAt w) (ht : Tabs w) : Calls Tryd.prog 69 #[.string s] w (RetIB (if pubK (runes (bsOf s)) then 0 else 7) w) := by
  have hcv := Lib.run_convert_string_bytes (P := Tryd.prog) w 9 22 5 s Tryd.underlying9 Tryd.underlying22 Tryd.underlying5
  have hC := bytesWorld_below w s
  have hg1 := grownCap_ge w s.size 0 5
  have hg2 := grownCap_le_maxLen w s.size 0 5 (by unfold maxLen; omega)
  have EN := callP_any 21 (isK 4) (enters_of Tryd.func21 (by kernel_rfl) rfl) (fun r W h => (pubid_any r W).mono fun e w' ⟨h1, h2⟩ => ⟨h1, h2 ▸ Below.refl _ _⟩) (some ⟨w.heap.size, 0, none⟩) s.size (grownCap w s.size 0 5) (bsOf s) _ (by omega) hg1 (by unfold maxLen at hg2; omega) (bytesWorld_bytes w s) (hf.below hC hf.size) (ht.below hC ht.size)
  rw [show allP (isK 4) (runes (bsOf s)) = pubK (runes (bsOf s)) from rfl] at EN
  generalize pubK (runes (bsOf s)) = b at EN ⊢
  have EN := Lib.hid EN
  have HC := Lib.hid hC
  clear hC hg1 hg2 hf ht
  cases b with
  | true =>
    go_enter Tryd.func69, Tryd.ntmps69
    go_wp2_with fail
    refine EN.out.mono ?_
    rintro e w2 ⟨rfl, hb2⟩
    go_wp2
    go_ret
    exact ⟨rfl, HC.out.trans (hb2.mono HC.out.size)⟩
  | false =>
    go_enter Tryd.func69, Tryd.ntmps69
    go_wp2_with fail
    refine EN.out.mono ?_
    rintro e w2 ⟨rfl, hb2⟩
    go_wp2
    go_ret
    exact ⟨rfl, HC.out.trans (hb2.mono HC.out.size)⟩
set_option maxRecDepth 100000 in
set_option maxHeartbeats 4000000 in
theorem lread_any (A : Option Addr) (n cp g : Nat) (at_ : Int) (xs : List Int) (w : World) (hn : n ≤ 1048576) (hcp : n ≤ cp) (hcp2 : cp ≤ 9223372036854775807) (hb : BytesAt w A n xs) (hf : FormsAt w) (ht : Tabs w) (hg : w.cell? ⟨g, 0, none⟩ = some (.func (.func 69) #[] #[])) :
    Calls Tryd.prog 68 #[.slice A n cp, .int .i64 at_, .slice (some ⟨g, 0, none⟩) 1 1] w (TellRead (pubN xs at_) w) := by
  have C := lquoted_any A n cp at_ xs w (by omega) hcp hcp2 hb
  obtain ⟨p, hp⟩ : ∃ p, p = pubN xs at_ := ⟨_, rfl⟩
  rw [← hp]
  unfold pubN at hp
  have hm := quoteN_mem xs at_
  have hll := quoteN_len xs at_
  rw [hb.1] at hll
  have hx := bytesAt_all hb
  generalize quoteN xs at_ = q at C hp hm hll
  obtain ⟨q1, q2, q3⟩ := q
  dsimp only at hp hm hll
  obtain ⟨s, hs⟩ : ∃ s, s = strOfNums q1 := ⟨_, rfl⟩
  have hbs : bsOf s = q1 := by rw [hs]; exact bsOf_strOf q1 (fun x h => hx x (hm x h))
  have hsz : s.size ≤ 1048576 := by rw [← bsOf_len, hbs]; omega
  unfold TellRead at C
  dsimp only at C
  rw [← hs] at C
  have CP := fun w' hf' ht' => lpub1_any s w' hsz hf' ht'
  rw [hbs] at CP
  have C := Lib.hid C
  have HP := Lib.hid hp
  have HS := Lib.hid hs
  have HF := Lib.hid hf
  have HT := Lib.hid ht
  have hgl : g < w.heap.size := World.block_lt_of_cell? _ _ hg
  have HG := Lib.hid hg
  clear hb hp hm hll hx hs hbs hf ht hg
  by_cases h0 : q3 = 0
  · subst h0
    have HQ : Hid (p = if pubK (runes q1) then (q1, q2, 0) else ([], 0, 7)) := by show _ = _; rw [HP.out]; rfl
    generalize pubK (runes q1) = b at CP HQ
    cases b with
    | true =>
      have HQ : Hid (p = (q1, q2, 0)) := by have h0 := HQ.out; show _ = _; simpa using h0
      go_enter Tryd.func68, Tryd.ntmps68
      go_wp2_with fail
      refine C.out.mono ?_
      rintro e w1 ⟨rfl, hb1⟩
      have HB1 := Lib.hid hb1
      have hg1 : w1.cell? ⟨g, 0, none⟩ = some (.func (.func 69) #[] #[]) := (hb1.cell (p := ⟨g, 0, none⟩) hgl).trans HG.out
      have C1 := Lib.hid (CP w1 (HF.out.below hb1 HF.out.size) (HT.out.below hb1 HT.out.size))
      clear hb1
      go_wp2
      refine wp_loop_rounds 2 ?_
      rw [rounds_succ]
      go_wp2_with fail
      refine C1.out.mono ?_
      rintro e w2 ⟨rfl, hb2⟩
      have HB2 := Lib.hid (HB1.out.trans (hb2.mono HB1.out.size))
      clear hb2
      go_wp2
      rw [rounds_succ]
      go_wp2
      go_ret3
      rw [HQ.out]
      exact ⟨by rw [HS.out]; rfl, HB2.out⟩
    | false =>
      have HQ : Hid (p = ([], 0, 7)) := by have h0 := HQ.out; show _ = _; simpa using h0
      go_enter Tryd.func68, Tryd.ntmps68
      go_wp2_with fail
      refine C.out.mono ?_
      rintro e w1 ⟨rfl, hb1⟩
      have HB1 := Lib.hid hb1
      have hg1 : w1.cell? ⟨g, 0, none⟩ = some (.func (.func 69) #[] #[]) := (hb1.cell (p := ⟨g, 0, none⟩) hgl).trans HG.out
      have C1 := Lib.hid (CP w1 (HF.out.below hb1 HF.out.size) (HT.out.below hb1 HT.out.size))
      clear hb1
      go_wp2
      refine wp_loop_rounds 2 ?_
      rw [rounds_succ]
      go_wp2_with fail
      refine C1.out.mono ?_
      rintro e w2 ⟨rfl, hb2⟩
      have HB2 := Lib.hid (HB1.out.trans (hb2.mono HB1.out.size))
      clear hb2
      go_wp2
      go_ret3
      rw [HQ.out]
      exact ⟨rfl, HB2.out⟩
  · have HQ : Hid (p = ([], 0, q3)) := by show _ = _; rw [HP.out, if_pos h0]
    have t1 : (q3 == 0) = false := by simpa using h0
    have t2 : (q3 != 0) = true := by simpa using h0
    go_enter Tryd.func68, Tryd.ntmps68
    go_wp2_with fail
    refine C.out.mono ?_
    rintro e w1 ⟨rfl, hb1⟩
    go_wp2
    go_ret3
    rw [HQ.out]
    exact ⟨rfl, hb1⟩
set_option maxRecDepth 100000 in
set_option maxHeartbeats 4000000 in
theorem lpublic_any (A : Option Addr) (n cp : Nat) (at_ : Int) (xs : List Int) (w : World) (hn : n ≤ 1048576) (hcp : n ≤ cp) (hcp2 : cp ≤ 9223372036854775807) (hb : BytesAt w A n xs) (hf : FormsAt w) (ht : Tabs w) :
    Calls Tryd.prog 52 #[.slice A n cp, .int .i64 at_] w (TellRead (pubN xs at_) w) := by
  have R := fun g w' h1 h2 h3 h4 => lread_any A n cp g at_ xs w' hn hcp hcp2 h1 h2 h3 h4
  have HB := Lib.hid hb
  have HF := Lib.hid hf
  have HT := Lib.hid ht
  clear hb hf ht
  generalize pubN xs at_ = p at R ⊢
  go_enter Tryd.func52, Tryd.ntmps52
  go_wp2_with fail
  have hA : Below w.heap.size w (w.alloc (.cells #[.func (.func 69) #[] #[]] 105)) := (Below.refl _ _).alloc (Nat.le_refl _) _
  have C1 := R w.heap.size (w.alloc (.cells #[.func (.func 69) #[] #[]] 105)) (HB.out.below hA) (HF.out.below hA HF.out.size) (HT.out.below hA HT.out.size) (by simp)
  have HA := Lib.hid hA
  clear hA
  refine C1.mono ?_
  rintro e w2 ⟨rfl, hb2⟩
  have HB2 := Lib.hid (HA.out.trans (hb2.mono HA.out.size))
  clear hb2
  go_wp2
  go_ret3
  exact ⟨rfl, HB2.out⟩
end Go.Proofs.YtbklopnpehafpaaDoor
