/- The contracts of (*Joiner).Flush and Put, over whatever function with two values of its own is told. Conditions: at most 2^40 bytes of text. -/
import Derived.Test.YtijofagmddhmgaaJoinFlush
namespace Go.Proofs.Ytijofagmddhmgaa
open Go.RowKit
/-- Who is told: the function's number, what it holds, what is known of what it was told, and what it answers. -/
structure OutFn2 (B : Nat) (fid : FuncId) (cap cap2 : Value) (J : List Ev → World → Prop) (Fg : Nat → World → Prop) (ans : List Ev → Ev → Int × List Ev) : Prop where
  enters : ∀ (args : Array Value) (w : World), (callFunc fid args).run Try.prog w = .ok (.enter fid args) w
  call : ∀ (ms : List Ev) (e : Ev) (w : World), B ≤ w.heap.size → J ms w → EvOk w e → e.n ≤ 1048576 → ms.length ≤ 4194304 →
    Calls Try.prog fid #[.agg #[.int .i64 e.k, .string e.sp, .string e.lo, .slice e.A e.n e.c, .string e.tx], cap, cap2] w fun x w' => x = .returned (.int .i64 (ans ms e).1) ∧ J (ans ms e).2 w' ∧ Below B w w' ∧ KeptT badO w w' ∧ ∀ k, Fg k w → Fg k w' ∧ w'.heap[k]? = w.heap[k]?
  newF : ∀ (ms : List Ev) (w W : World), J ms w → Below w.heap.size w W → w.heap.size < W.heap.size → Fg w.heap.size W
  keptF : ∀ (k : Nat) (w w' : World), Fg k w → KeptT badW w w' → w.heap.size ≤ w'.heap.size → Fg k w'
  kept : ∀ (ms : List Ev) (w w' : World), J ms w → KeptT badW w w' → J ms w'
theorem eqlFn2 (fid : FuncId) (cap cap2 : Value) (W : World) : (binOp .eql 43 (.func (.func fid) #[] #[cap, cap2]) .nilFunc).run Try.prog W = .ok (.bool false) W := by kernel_rfl
set_option maxRecDepth 100000 in
set_option maxHeartbeats 4000000 in
theorem flush_any2 {B : Nat} {fid : FuncId} {cap cap2 : Value} {J : List Ev → World → Prop} {Fg : Nat → World → Prop} {ans : List Ev → Ev → Int × List Ev} (O : OutFn2 B fid cap cap2 J Fg ans) (b : Nat) (p v : Value) (t : ByteArray) (ms : List Ev) (w : World)
    (hB : B ≤ b) (h : JAt b (.func (.func fid) #[] #[cap, cap2]) p v w) (ht : JText B v t w) (hJ : J ms w) (hm : ms.length ≤ 4194304) :
    Calls Try.prog 22 #[.pointer (some ⟨b, 0, none⟩)] w fun x w' => x = .returned (.int .i64 (flushR ans ms t).1) ∧ JAt b (.func (.func fid) #[] #[cap, cap2]) (.pointer none) (.slice none 0 0) w' ∧ J (flushR ans ms t).2 w' ∧ Below B w w' ∧ ∀ (k : Nat) (cur : Array Value) (T : TypeId) (fz : Nat × Nat), Fg k w → w.heap[k]? = some (.cells cur T fz) → ¬ badW T → Fg k w' ∧ w'.heap[k]? = some (.cells cur T fz) := by
  have eg := O.enters
  have ef := eqlFn2 fid cap cap2
  by_cases h0 : t = ⟨#[]⟩
  · have F : flushR ans ms t = (0, ms) := if_pos h0
    rw [F]
    subst h0
    obtain rfl : v = .slice none 0 0 := ht.2 rfl
    have c0 := h.c0
    have H := Lib.hid h
    have HJ := Lib.hid hJ
    clear h ht hJ F
    go_enter Try.func22, Try.ntmps22
    go_wp2_with fail
    refine (jstring_nil B b _ p w H.out).mono ?_
    rintro x w1 ⟨rfl, hB1, hK1⟩
    have h1 := H.out.kept hK1 notSJ
    have HJ1 := Lib.hid (O.kept ms _ _ HJ.out (hK1.mono badS_W))
    have KS1 := Lib.hid (hK1.mono badS_W)
    have HB1 := Lib.hid hB1
    clear hB1 hK1
    go_wp2_with fail
    refine (jreset B b _ p _ w1 hB h1).mono ?_
    rintro x w2 ⟨rfl, h2, hB2, hK2⟩
    have HJ2 := Lib.hid (O.kept ms _ _ HJ1.out (hK2.mono badJ_W))
    have HKK := Lib.hid (KS1.out.trans (hK2.mono badJ_W))
    have HB2 := Lib.hid (HB1.out.trans hB2)
    have H2 := Lib.hid h2
    clear h1 h2 hB2 hK2
    go_wp2
    go_ret
    exact ⟨rfl, H2.out, HJ2.out, HB2.out, fun k cur T fz hf hk hT => ⟨O.keptF k _ _ hf HKK.out HB2.out.size, HKK.out k cur T fz hk hT⟩⟩
  · have F : flushR ans ms t = ans ms (textEv t) := if_neg h0
    rw [F]
    have hsz : ¬ t.size = 0 := fun h => h0 (by apply Go.WideShapes.bytes_inj; have h' : t.data.toList.length = 0 := by rw [Array.length_toList]; exact h
                                               rw [List.eq_nil_of_length_eq_zero h'])
    have q2 := toE_no h0
    have c0 := h.c0
    have H := Lib.hid h
    have HT := Lib.hid ht
    have HJ := Lib.hid hJ
    clear h ht hJ F h0
    go_enter Try.func22, Try.ntmps22
    go_wp2_with fail
    refine (jstring_some B b _ p v t w H.out HT.out hsz).mono ?_
    rintro x w1 ⟨rfl, hB1, hK1⟩
    have h1 := H.out.kept hK1 notSJ
    have HJ1 := Lib.hid (O.kept ms _ _ HJ.out (hK1.mono badS_W))
    have KS1 := Lib.hid (hK1.mono badS_W)
    have HB1 := Lib.hid hB1
    clear hB1 hK1
    go_wp2_with fail
    refine (jreset B b _ p v w1 hB h1).mono ?_
    rintro x w2 ⟨rfl, h2, hB2, hK2⟩
    have HJ2 := Lib.hid (O.kept ms _ _ HJ1.out (hK2.mono badJ_W))
    have HB2 := Lib.hid (HB1.out.trans hB2)
    have H2 := Lib.hid h2
    have c2 := h2.c0
    have hs2 : B ≤ w2.heap.size := Nat.le_trans hB (Nat.le_of_lt h2.lt)
    have HKK := Lib.hid (KS1.out.trans (hK2.mono badJ_W))
    clear h1 h2 hB2 hK2 c0
    go_wp2_with fail
    refine (O.call ms (textEv t) w2 hs2 HJ2.out (textEv_ok _ t) (by simp [textEv]) hm).mono ?_
    rintro x w3 ⟨rfl, hJ3, hB3, hK3, hF3⟩
    have HF3 := Lib.hid hF3
    clear hF3
    have H3 := Lib.hid (H2.out.kept hK3 notOJ)
    have HJ3 := Lib.hid hJ3
    have HB3 := Lib.hid (HB2.out.trans hB3)
    clear hJ3 hB3 hK3
    go_wp2
    go_ret
    refine ⟨rfl, H3.out, HJ3.out, HB3.out, fun k cur T fz hf hk hT => ?_⟩
    have h9 := HF3.out k (O.keptF k _ _ hf HKK.out HB2.out.size)
    exact ⟨h9.1, h9.2.trans (HKK.out k cur T fz hk hT)⟩
set_option maxRecDepth 100000 in
set_option maxHeartbeats 4000000 in
theorem put_text2 {B : Nat} {fid : FuncId} {cap cap2 : Value} {J : List Ev → World → Prop} {Fg : Nat → World → Prop} {ans : List Ev → Ev → Int × List Ev} (O : OutFn2 B fid cap cap2 J Fg ans) (b : Nat) (p v : Value) (t : ByteArray) (ms : List Ev) (e : Ev) (w : World)
    (hB : B ≤ b) (h : JAt b (.func (.func fid) #[] #[cap, cap2]) p v w) (hp : p = .pointer none ∨ p = .pointer (some ⟨b, 1, none⟩)) (ht : JText B v t w) (hJ : J ms w) (hlen : t.size + e.tx.size ≤ 140737488355328) (hk : e.k = 3) :
    Calls Try.prog 21 #[.pointer (some ⟨b, 0, none⟩), .agg #[.int .i64 e.k, .string e.sp, .string e.lo, .slice e.A e.n e.c, .string e.tx]] w (TellPut B b (.func (.func fid) #[] #[cap, cap2]) J (putR ans ms t e) w) := by
  have ef := eqlFn2 fid cap cap2
  have F : putR ans ms t e = (0, ms, t ++ e.tx) := if_pos hk
  rw [F]
  obtain ⟨W, hW, hB0, c0, c1, c2, c3, c4⟩ := evBox w e 31
  have hK0 : KeptT (fun _ => False) w W := KeptT.below hB0
  have h1 := h.kept hK0 (fun h => h)
  have q1 : (e.k == 3) = true := by simpa using hk
  have j0 := h1.c0
  have hBw : B ≤ w.heap.size := Nat.le_trans hB (Nat.le_of_lt h.lt)
  have hWd : Below W.heap.size W W.drew := below_drew _ W
  have hKd : KeptT (fun _ => False) W W.drew := KeptT.below hWd
  have HD := Lib.hid (h1.kept hKd (fun h => h))
  have HT := Lib.hid (show JText B v t W.drew from ⟨own_kept (own_kept ht.1 hK0 (fun h => h)) hKd (fun h => h), ht.2⟩)
  have HJ := Lib.hid (O.kept ms _ _ hJ ((hK0.trans hKd).mono fun _ h => h.elim))
  have HB0 := Lib.hid ((hB0.mono hBw).trans (below_drew B W))
  have hbx : W.heap[w.heap.size]? = some (.cells #[.int .i64 e.k, .string e.sp, .string e.lo, .slice e.A e.n e.c, .string e.tx] 31 (0, 0)) := by rw [← hW]; exact heap_alloc_new w _
  have HX := Lib.hid (show W.drew.heap[w.heap.size]? = some (.cells #[.int .i64 e.k, .string e.sp, .string e.lo, .slice e.A e.n e.c, .string e.tx] 31 (0, 0)) from hbx)
  have x0 : W.drew.cell? ⟨w.heap.size, 4, none⟩ = some (.string e.tx) := by rw [Lib.cell_of_heap HX.out]; rfl
  clear h ht hJ hk F hB0 hK0 h1 hWd hKd hbx
  go_enter Try.func21, Try.ntmps21
  go_wp2_with fail
  go_region_held3 (fun w' => w'.cell? ⟨w.heap.size, 4, none⟩ = some (.string e.tx)) (first | exact y0 | exact x0)
    (first
    | (go_at_call 41; refine (jwrite B b _ p v t e.tx _ hB HD.out hp HT.out hlen).mono ?_; rintro x w2 ⟨rfl, hv2, hB2, hK2⟩; have y0 : w2.cell? ⟨w.heap.size, 4, none⟩ = some (.string e.tx) := (by rw [Lib.cell_of_heap (hK2 _ _ _ _ HX.out (by unfold badW; decide))]; rfl); have HJ2 := Lib.hid (O.kept ms _ _ HJ.out hK2)))
  all_goals
    go_wp2
    go_ret
    obtain ⟨v', hv', ht'⟩ := hv2
    exact ⟨rfl, ⟨_, v', hv', .inr rfl, ht'⟩, HJ2.out, HB0.out.trans hB2⟩
set_option maxRecDepth 100000 in
set_option maxHeartbeats 4000000 in
theorem put_other2 {B : Nat} {fid : FuncId} {cap cap2 : Value} {J : List Ev → World → Prop} {Fg : Nat → World → Prop} {ans : List Ev → Ev → Int × List Ev} (O : OutFn2 B fid cap cap2 J Fg ans) (b : Nat) (p v : Value) (t : ByteArray) (ms : List Ev) (e : Ev) (w : World)
    (hB : B ≤ b) (h : JAt b (.func (.func fid) #[] #[cap, cap2]) p v w) (ht : JText B v t w) (hJ : J ms w) (hm : ms.length ≤ 4194303) (hms : (flushR ans ms t).2.length ≤ 4194304) (hn : e.n ≤ 1048576) (hlow : ∀ w', Below B w w' → EvOk w' e) (hk : ¬ e.k = 3) :
    Calls Try.prog 21 #[.pointer (some ⟨b, 0, none⟩), .agg #[.int .i64 e.k, .string e.sp, .string e.lo, .slice e.A e.n e.c, .string e.tx]] w (TellPut B b (.func (.func fid) #[] #[cap, cap2]) J (putR ans ms t e) w) := by
  have ef := eqlFn2 fid cap cap2
  have eg := O.enters
  obtain ⟨W, hW, hB0, c0, c1, c2, c3, c4⟩ := evBox w e 31
  have hK0 : KeptT (fun _ => False) w W := KeptT.below hB0
  have h1 := h.kept hK0 (fun h => h)
  have q1 : (e.k == 3) = false := by simpa using hk
  have j0 := h1.c0
  have hBw : B ≤ w.heap.size := Nat.le_trans hB (Nat.le_of_lt h.lt)
  have HT := Lib.hid (show JText B v t W from ⟨own_kept ht.1 hK0 (fun h => h), ht.2⟩)
  have HJ := Lib.hid (O.kept ms _ _ hJ (hK0.mono fun _ h => h.elim))
  have hWs : w.heap.size < W.heap.size := by rw [← hW]; simp
  have HFg := Lib.hid (O.newF ms w W hJ hB0 hWs)
  have HB0 := Lib.hid (hB0.mono hBw)
  have hbx : W.heap[w.heap.size]? = some (.cells #[.int .i64 e.k, .string e.sp, .string e.lo, .slice e.A e.n e.c, .string e.tx] 31 (0, 0)) := by rw [← hW]; exact heap_alloc_new w _
  have HX := Lib.hid hbx
  have H1 := Lib.hid h1
  have LOW := Lib.hid hlow
  have nb33 : ¬ badW 31 := by unfold badW; decide
  clear h ht hJ hB0 hK0 h1 hbx hlow
  obtain ⟨r1, hr1⟩ : ∃ r, (flushR ans ms t).1 = r := ⟨_, rfl⟩
  have R1 := Lib.hid hr1
  by_cases hz : r1 = 0
  · have F : putR ans ms t e = ((ans (flushR ans ms t).2 e).1, (ans (flushR ans ms t).2 e).2, ⟨#[]⟩) := by unfold putR; rw [if_neg hk, if_pos (by rw [hr1]; exact hz)]
    rw [F]
    clear hk hr1 F
    go_enter Try.func21, Try.ntmps21
    go_wp2_with fail
    refine (flush_any2 O b p v t ms W hB H1.out HT.out HJ.out (by omega)).mono ?_
    rintro x w1 ⟨rfl, h2, hJ2, hB2, hF2⟩
    rw [R1.out, hz]
    obtain ⟨hFg2, hbx2⟩ := hF2 _ _ _ _ HFg.out HX.out nb33
    have hd : Below w1.heap.size w1 w1.drew := below_drew _ w1
    have hkd : KeptT (fun _ => False) w1 w1.drew := KeptT.below hd
    have HD := Lib.hid (h2.kept hkd (fun h => h))
    have HXD := Lib.hid (hkd _ _ _ _ hbx2 (fun h => h))
    have HJD := Lib.hid (O.kept _ _ _ hJ2 (hkd.mono fun _ h => h.elim))
    have HFD := Lib.hid (O.keptF _ _ _ hFg2 (hkd.mono fun _ h => h.elim) hd.size)
    have HBD := Lib.hid ((HB0.out.trans hB2).trans (below_drew B w1))
    have HOK := Lib.hid (LOW.out _ HBD.out)
    have hsD : B ≤ w1.drew.heap.size := Nat.le_trans hBw HBD.out.size
    have x5 := HD.out.c0
    have x0 : w1.drew.cell? ⟨w.heap.size, 0, none⟩ = some (.int .i64 e.k) := by rw [Lib.cell_of_heap HXD.out]; rfl
    have x1 : w1.drew.cell? ⟨w.heap.size, 1, none⟩ = some (.string e.sp) := by rw [Lib.cell_of_heap HXD.out]; rfl
    have x2 : w1.drew.cell? ⟨w.heap.size, 2, none⟩ = some (.string e.lo) := by rw [Lib.cell_of_heap HXD.out]; rfl
    have x3 : w1.drew.cell? ⟨w.heap.size, 3, none⟩ = some (.slice e.A e.n e.c) := by rw [Lib.cell_of_heap HXD.out]; rfl
    have x4 : w1.drew.cell? ⟨w.heap.size, 4, none⟩ = some (.string e.tx) := by rw [Lib.cell_of_heap HXD.out]; rfl
    clear h2 hJ2 hB2 hF2 hFg2 hbx2 hd hkd c0 c1 c2 c3 c4 hW
    go_wp2_with fail
    go_region_held3 (fun w' => w'.cell? ⟨b, 0, none⟩ = some (.func (.func fid) #[] #[cap, cap2]) ∧ w'.cell? ⟨w.heap.size, 0, none⟩ = some (.int .i64 e.k) ∧ w'.cell? ⟨w.heap.size, 1, none⟩ = some (.string e.sp) ∧ w'.cell? ⟨w.heap.size, 2, none⟩ = some (.string e.lo) ∧ w'.cell? ⟨w.heap.size, 3, none⟩ = some (.slice e.A e.n e.c) ∧ w'.cell? ⟨w.heap.size, 4, none⟩ = some (.string e.tx))
      (first | exact YS | exact ⟨x5, x0, x1, x2, x3, x4⟩)
      (first
      | (refine (O.call (flushR ans ms t).2 e _ hsD HJD.out HOK.out hn hms).mono ?_; rintro x w2 ⟨rfl, hJ3, hB3, hK3, hF3⟩; have YS := box_cells (HD.out.kept hK3 notOJ) ((hF3 _ HFD.out).2.trans HXD.out); have H3 := Lib.hid (HD.out.kept hK3 notOJ)))
    all_goals
      go_wp2
      go_ret
      exact ⟨rfl, ⟨_, _, H3.out, .inl rfl, jtext_nil B _⟩, hJ3, HBD.out.trans hB3⟩
  · have F : putR ans ms t e = ((flushR ans ms t).1, (flushR ans ms t).2, ⟨#[]⟩) := by unfold putR; rw [if_neg hk, if_neg (by rw [hr1]; exact hz)]
    rw [F]
    have qz : (r1 != 0) = true := by simpa using hz
    clear hk hr1 F
    go_enter Try.func21, Try.ntmps21
    go_wp2_with fail
    refine (flush_any2 O b p v t ms W hB H1.out HT.out HJ.out (by omega)).mono ?_
    rintro x w1 ⟨rfl, h2, hJ2, hB2, hF2⟩
    rw [R1.out]
    go_wp2
    go_ret
    exact ⟨by rw [R1.out]; rfl, ⟨_, _, h2, .inl rfl, jtext_nil B _⟩, hJ2, HB0.out.trans hB2⟩
end Go.Proofs.Ytijofagmddhmgaa
