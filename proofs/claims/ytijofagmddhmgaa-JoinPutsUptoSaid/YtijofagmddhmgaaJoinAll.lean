/- The contract of join.All. Conditions: at most 2^20 events, of at most 2^20 bytes and attributes together. -/
import Derived.Test.YtijofagmddhmgaaJoinFlush
import Derived.Shelf.Abstract
namespace Go.Proofs.Ytijofagmddhmgaa
open Go.RowKit Go.Shelf
def ansAll (ms : List Ev) (e : Ev) : Int × List Ev := (0, ms ++ [e])
theorem outFn (B bo : Nat) : OutFn B 38 (.pointer (some ⟨bo, 0, none⟩)) (OutAt B bo) (OutFg bo) ansAll where
  enters := enters_of Try.func38 (by kernel_rfl) rfl
  call := fun ms e w hB ho hok hn hm => allOut_any B bo ms e w hB ho hok hn hm
  newF := fun _ _ _ h hb hs => h.fg hb hs
  keptF := fun _ _ _ h hk hs => h.kept hk (by unfold badW; decide) hs
  kept := fun _ _ _ h hk => h.kept hk (by unfold badW; decide) (by unfold badW; decide) (by unfold badW; decide)
theorem flush_ans (ms : List Ev) (t : ByteArray) : flushR ansAll ms t = (0, flushJ (ms, t)) := by unfold flushR flushJ ansAll; split <;> rfl
theorem put_ans (ms : List Ev) (t : ByteArray) (e : Ev) : putR ansAll ms t e = (0, stepJ (ms, t) e) := by
  unfold putR stepJ
  rw [flush_ans]
  split
  · rfl
  · simp only [if_true]; rfl
theorem new_any (fid : FuncId) (cap : Value) (w : World) : Calls Try.prog 19 #[.func (.func fid) #[] #[cap]] w fun e w' => e = .returned (.pointer (some ⟨w.heap.size, 0, none⟩)) ∧ w' = w.alloc (.cells #[.func (.func fid) #[] #[cap], .pointer none, .slice none 0 0] 69) := by
  go_enter Try.func19, Try.ntmps19
  go_wp2
  go_ret
  exact ⟨rfl, rfl⟩
theorem put_all {B bo : Nat} (b : Nat) (p v : Value) (s : List Ev × ByteArray) (e : Ev) (w : World)
    (hB : B ≤ b) (h : JAt b (.func (.func 38) #[] #[.pointer (some ⟨bo, 0, none⟩)]) p v w) (hp : p = .pointer none ∨ p = .pointer (some ⟨b, 1, none⟩)) (ht : JText B v s.2 w) (hJ : OutAt B bo s.1 w) (hm : s.1.length ≤ 4194302) (hlen : s.2.size + e.tx.size ≤ 140737488355328) (hn : e.n ≤ 1048576) (hlow : ∀ w', Below B w w' → EvOk w' e) :
    Calls Try.prog 21 #[.pointer (some ⟨b, 0, none⟩), .agg #[.int .i64 e.k, .string e.sp, .string e.lo, .slice e.A e.n e.c, .string e.tx]] w (TellPut B b (.func (.func 38) #[] #[.pointer (some ⟨bo, 0, none⟩)]) (OutAt B bo) (0, stepJ s e) w) := by
  rw [← put_ans s.1 s.2 e]
  by_cases hk : e.k = 3
  · exact put_text (outFn B bo) b p v s.2 s.1 e w hB h hp ht hJ hlen hk
  · refine put_other (outFn B bo) b p v s.2 s.1 e w hB h ht hJ (by omega) ?_ hn hlow hk
    rw [flush_ans]
    have h9 := flushJ_len (s.1, s.2)
    simp only at h9 ⊢
    omega
set_option maxRecDepth 100000 in
set_option maxHeartbeats 4000000 in
theorem all_any (A : Option Addr) (n c : Nat) (l : List Ev) (w : World) (hl : EvsAt w A n l) (hn : n ≤ 1048576) (hs : evSum l ≤ 1048576) :
    Calls Try.prog 16 #[.slice A n c] w fun x w' => ∃ outs A' c', x = .returned (.slice A' outs.length c') ∧ sameEvs outs (allJ l) = true ∧ EvsAt w' A' outs.length outs ∧ outs.length ≤ c' ∧ c' ≤ 9223372036854775807 ∧ Below w.heap.size w w' := by
  have L := Lib.hid hl
  have LN := Lib.hid hl.1
  have O := Lib.hid (outFn w.heap.size w.heap.size)
  clear hl
  go_enter Try.func16, Try.ntmps16
  go_wp2_with fail
  have hB1 : Below w.heap.size w (w.alloc (.cells #[.slice none 0 0] 22)) := (Below.refl _ w).alloc (Nat.le_refl _) _
  have hO1 : OutAt w.heap.size w.heap.size [] (w.alloc (.cells #[.slice none 0 0] 22)) := ⟨Nat.le_refl _, .slice none 0 0, [], heap_alloc_new w _, World.ownsRow_nil _ _ _ _, rfl, fun e he => by cases he⟩
  refine (new_any _ _ _).mono ?_
  generalize w.alloc (.cells #[.slice none 0 0] 22) = V at *
  obtain ⟨b, hb⟩ : ∃ b, V.heap.size = b := ⟨_, rfl⟩
  have hJ0 : JAt b (.func (.func 38) #[] #[.pointer (some ⟨w.heap.size, 0, none⟩)]) (.pointer none) (.slice none 0 0) (V.alloc (.cells #[.func (.func 38) #[] #[.pointer (some ⟨w.heap.size, 0, none⟩)], .pointer none, .slice none 0 0] 69)) := by
    rw [← hb]; exact heap_alloc_new V _
  have hB2 : Below V.heap.size V (V.alloc (.cells #[.func (.func 38) #[] #[.pointer (some ⟨w.heap.size, 0, none⟩)], .pointer none, .slice none 0 0] 69)) := (Below.refl _ V).alloc (Nat.le_refl _) _
  have J0 := Lib.hid hJ0
  have O0 := Lib.hid (hO1.kept (KeptT.below (bad := fun _ => False) hB2) (fun h => h) (fun h => h) (fun h => h))
  have B0 := Lib.hid (hB1.trans (hB2.mono hB1.size))
  have hbw : w.heap.size ≤ b := by rw [← hb]; exact hB1.size
  clear hJ0 hO1 hB1 hB2
  rintro x w1 ⟨rfl, rfl⟩
  rw [hb]
  clear hb
  generalize V.alloc _ = V1 at *
  go_wp2
  go_loopw [14] (fun i wr => ∃ (k : Nat) (p v : Value), k ≤ n ∧ i = .int .i64 k ∧ Hid (JAt b (.func (.func 38) #[] #[.pointer (some ⟨w.heap.size, 0, none⟩)]) p v wr) ∧ Hid (p = .pointer none ∨ p = .pointer (some ⟨b, 1, none⟩)) ∧ Hid (JText w.heap.size v (runJ l k).2 wr) ∧ Hid (OutAt w.heap.size w.heap.size (runJ l k).1 wr) ∧ Hid (Below w.heap.size w wr)) (fun i _ => n - (intOf i).toNat)
  case atStart => exact ⟨0, _, _, by omega, rfl, J0.out, .inl rfl, jtext_nil _ _, O0.out, B0.out⟩
  case round =>
    obtain ⟨k, p, v, hk, rfl, HJ, HP, HT, HO, HB⟩ := hrel
    by_cases hlt : k < n
    · obtain ⟨a, e, hA, hx, he, hok⟩ := L.out.2 k hlt
      subst hA
      have b0 : (0 : Int) ≤ (k : Int) := by omega
      have b1 : (k : Int) < (n : Int) := by omega
      obtain ⟨_, g0, g1, g2, g3, g4⟩ := he.below HB.out he.1
      obtain ⟨W, hW, hB1, c0, c1, c2, c3, c4⟩ := evBox wr e 31
      have hK1 : KeptT (fun _ => False) wr W := KeptT.below hB1
      have R := Lib.hid (runJ_succ l k e hx)
      have hl1 := runJ_len l k
      have hl2 := runJ_size l k
      have hl3 := evSum_le l k
      have hl4 := evSum_mem hx
      have hl5 : e.tx.size + e.n ≤ e.all := by unfold Ev.all Ev.size; omega
      have HBW := Lib.hid (HB.out.trans (hB1.mono HB.out.size))
      have HOK := Lib.hid hok
      have HJW := Lib.hid (HJ.out.kept hK1 (fun h => h))
      have HTW := Lib.hid (show JText w.heap.size v (runJ l k).2 W from ⟨own_kept HT.out.1 hK1 (fun h => h), HT.out.2⟩)
      have HOW := Lib.hid (HO.out.kept hK1 (fun h => h) (fun h => h) (fun h => h))
      have m1 : (runJ l k).1.length ≤ 4194302 := by omega
      have m2 : (runJ l k).2.size + e.tx.size ≤ 140737488355328 := by omega
      have m3 : e.n ≤ 1048576 := by omega
      clear hx he hok hB1 hK1 HJ HT HO hl1 hl2 hl3 hl4 hl5
      go_wp2_with fail
      refine (put_all b p v (runJ l k) e W hbw HJW.out HP.out HTW.out HOW.out m1 m2 m3 (fun w' hb => HOK.out.below (HBW.out.trans hb))).mono ?_
      rintro x w2 ⟨rfl, ⟨p2, v2, hJ2, hp2, hT2⟩, hO2, hB2⟩
      rw [← R.out] at hT2 hO2
      have J2 := Lib.hid hJ2
      have P2 := Lib.hid hp2
      have T2 := Lib.hid hT2
      have O2 := Lib.hid hO2
      have B2 := Lib.hid (HBW.out.trans hB2)
      clear hJ2 hp2 hT2 hO2 hB2
      go_wp2
      go_roundw
      case rel => exact ⟨k + 1, p2, v2, by omega, by go_num, J2, P2, T2, O2, B2⟩
      case measure => simp [intOf]; omega
    · obtain rfl : k = n := by omega
      have hl1 := runJ_len l k
      go_wp2_with fail
      refine (flush_any O.out b p v (runJ l k).2 (runJ l k).1 wr hbw HJ.out HT.out HO.out (by omega)).mono ?_
      rintro x w2 ⟨rfl, _, hO2, hB2, _⟩
      have hall : (flushR ansAll (runJ l k).1 (runJ l k).2).2 = allJ l := by rw [flush_ans]; unfold allJ; rw [LN.out]
      rw [hall] at hO2
      obtain ⟨_, vo, outs, hbo, hown, hsame, hats⟩ := hO2
      have kb : w2.cell? ⟨w.heap.size, 0, none⟩ = some vo := by rw [Lib.cell_of_heap hbo]; rfl
      obtain ⟨Ao, co, rfl⟩ := ownRow_shapeJ hown
      obtain ⟨z1, z2, _⟩ := ownRow_capJ hown
      have OKS := Lib.hid (show ∀ e ∈ outs, EvOk w2 e from fun e he => by
        have h := hats e he
        have h2 := h.2
        rw [h.1] at h2
        refine ⟨by rw [h.1]; exact AtsAt.of_own h2, ?_, ?_⟩
        · have := ownRow_capJ h2; rw [h.1]; exact this.1
        · exact (ownRow_capJ h2).2.1)
      have OWN := Lib.hid hown
      have SM := Lib.hid hsame
      have BF := Lib.hid (HB.out.trans hB2)
      clear hown hsame hats hall hB2 hbo
      go_wp2
      go_ret
      exact ⟨outs, Ao, co, rfl, SM.out, EvsAt.of_own OWN.out OKS.out, z1, z2, BF.out⟩
end Go.Proofs.Ytijofagmddhmgaa
