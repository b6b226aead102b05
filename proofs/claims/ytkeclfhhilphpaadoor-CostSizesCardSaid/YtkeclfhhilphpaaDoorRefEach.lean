/- The contract of refs.each's iterator: the references of a text, one by one. Conditions: the tables of chars and of utf hold what the text gives them. -/
import Derived.Test.YtkeclfhhilphpaaDoorRefEnt
import Derived.RangeFuncNested
import Derived.RangeFuncBound
import Derived.RangeFuncCalls
import Derived.RangeFuncLeaves
import Derived.RangeFuncBox
import Derived.Shelf.Abstract
import Derived.Shelf.RegionOpen
import Derived.OwnWalkIn
import Derived.TacticsInMore
import Derived.LoopNIn
import Derived.LoopIn
namespace Go.Proofs.YtkeclfhhilphpaaDoor
open Go.RowKit Go.Shelf Go.Proofs.YtkeclfhhilphpaaDoor.UtfPlain Go.Proofs.YtkeclfhhilphpaaDoor.CharsPlain Go.Proofs.YtkeclfhhilphpaaDoor.NamePlain Go.Proofs.YtkeclfhhilphpaaDoor.RefPlain
attribute [local go_sem] Oper.semAt_some
def refEnc (x : RefR) : Array Value := #[.agg #[.int .i64 x.a, .int .i64 x.b, .string (strOfNums x.s)]]
/-- What a round must keep: what lay below, and every marked row. -/
def KpR (n₀ : Nat) (W W' : World) : Prop := Below n₀ W W' ∧ ∀ (k : Nat) (cur : Array Value) (t : TypeId) (fz : Nat × Nat), fz ≠ (0, 0) → W.heap[k]? = some (.cells cur t fz) → W'.heap[k]? = some (.cells cur t fz)
theorem KpR.trans {n₀ : Nat} {A B C : World} (h : KpR n₀ A B) (k : KpR n₀ B C) : KpR n₀ A C := ⟨h.1.trans k.1, fun i cur t fz hz hi => k.2 i cur t fz hz (h.2 i cur t fz hz hi)⟩
theorem KpR.refl (n₀ : Nat) (A : World) : KpR n₀ A A := ⟨Below.refl _ _, fun _ _ _ _ _ h => h⟩
theorem KpR.below {n₀ : Nat} {A B : World} (h : Below A.heap.size A B) (hn : n₀ ≤ A.heap.size) : KpR n₀ A B := ⟨h.mono hn, fun i cur t fz _ hi => by
  rw [h.block i (by rcases Nat.lt_or_ge i A.heap.size with h' | h'; exact h'; rw [Array.getElem?_eq_none h'] at hi; cases hi)]; exact hi⟩
theorem KpR_put {n₀ B : Nat} (hB : n₀ ≤ B) (W : World) (l : Nat) (o o' : Obj) (hl : B ≤ l) (h : W.heap[l]? = some o) (hc : o.isCells = false) (_ : o.isWalk = false) : KpR n₀ W (W.putObj l o') := by
  have hg := grownBy_putObj' W l o'
  refine ⟨⟨hg.os, hg.tape, hg.output, hg.size, fun k hk => World.putObj_heap_other (by omega)⟩, fun k cur t fz _ hk => ?_⟩
  by_cases e : k = l
  · subst e; rw [h] at hk; cases hk; cases hc
  · rw [World.putObj_heap_other e]; exact hk
theorem no38 {l : List Int} (h : Lib.indexByte (Lib.bytesOf l) 38 = -1) : ∀ j : Nat, l[j]? ≠ some 38 := by
  intro j hj
  refine Lib.indexByte_none h j ?_
  unfold Lib.bytesOf
  rw [List.getElem?_map, hj]; rfl
theorem at38 {l : List Int} (hb : ∀ x ∈ l, 0 ≤ x ∧ x ≤ 255) {d : Nat} (h : Lib.indexByte (Lib.bytesOf l) 38 = d) : d < l.length ∧ l[d]? = some 38 ∧ ∀ j : Nat, j < d → l[j]? ≠ some 38 := by
  obtain ⟨h1, h2⟩ := Lib.indexByte_some h
  unfold Lib.bytesOf at h1 h2
  have hd : d < l.length := by have := (List.getElem?_eq_some_iff.1 h1).1; simpa using this
  refine ⟨hd, ?_, fun j hj e => h2 j hj (by rw [List.getElem?_map, e]; rfl)⟩
  rw [List.getElem?_map, List.getElem?_eq_getElem hd] at h1
  rw [List.getElem?_eq_getElem hd]
  have hbb := hb _ (List.getElem_mem hd)
  simp at h1
  have h3 := congrArg UInt8.toNat h1
  simp at h3
  congr 1
  omega
/-- The bytes of a text, in the marked row that a conversion made. -/
theorem bytes_row {V wr : World} {g n : Nat} {xs : List Int} (h : BytesAt V (some ⟨g, 0, none⟩) n xs) (hs : g < V.heap.size) (he : wr.heap[g]? = V.heap[g]?) : BytesAt wr (some ⟨g, 0, none⟩) n xs := by
  have hg : g < wr.heap.size := by
    rcases Nat.lt_or_ge g wr.heap.size with h' | h'
    · exact h'
    · rw [Array.getElem?_eq_none h', Array.getElem?_eq_getElem hs] at he; cases he
  refine ⟨h.1, fun k hk => ?_⟩
  obtain ⟨a, x, h1, h2, h3, h4, _, h6⟩ := h.2 k hk
  cases h1
  refine ⟨_, x, rfl, h2, h3, h4, hg, ?_⟩
  rw [← h6]
  exact World.cell?_of_block (by rw [addBlock]; exact he)
theorem drop_b {xs : List Int} (hb : ∀ x ∈ xs, 0 ≤ x ∧ x ≤ 255) (k : Nat) : ∀ x ∈ xs.drop k, 0 ≤ x ∧ x ≤ 255 := fun x hx => hb x (List.mem_of_mem_drop hx)
theorem getD_drop (xs : List Int) (k i : Nat) : (xs.drop k).getD i 0 = xs.getD (k + i) 0 := by rw [List.getD_eq_getElem?_getD, List.getElem?_drop, List.getD_eq_getElem?_getD]
theorem row_cell {w : World} {g n j : Nat} {xs : List Int} (h : BytesAt w (some ⟨g, 0, none⟩) n xs) (hj : j < n) : w.cell? ⟨g, j, none⟩ = some (.int .u8 (xs.getD j 0)) := by
  obtain ⟨a, ha, hc⟩ := byte_at h hj
  cases ha
  have e : (⟨g, 0, none⟩ : Addr).add j = ⟨g, j, none⟩ := by unfold Addr.add; split <;> simp_all
  rwa [e] at hc
theorem marked (a : Nat) : (a, a + 1) ≠ ((0, 0) : Nat × Nat) := by simp
set_option maxRecDepth 100000 in
set_option maxHeartbeats 8000000 in
theorem each1_in (n : Nat) (hn : 1 ≤ n) (l Bs n₀ : Nat) (s : ByteArray) (hlen : s.size ≤ 1099511627776) (hT : 4 < n₀ ∧ 2 < n₀ ∧ 3 < n₀) (J Jx : List RefR → World → Prop)
    (hJb : ∀ q W W', J q W → Below W.heap.size W W' → J q W')
    (hY : ∀ pre x W, pre ++ [x] <+: refsN (bsOf s) → J pre W → pre.length < s.size + 1 → YieldAt Fence.wide (n - 1) Tryd.prog l (refEnc x) W fun e W' =>
      (e = .returned (.bool true) ∧ J (pre ++ [x]) W' ∧ KpR n₀ W W') ∨ (e = .returned (.bool false) ∧ Jx (pre ++ [x]) W'))
    (W : World) (hnW : n₀ ≤ W.heap.size) (hBs : W.cell? ⟨Bs, 0, none⟩ = some (.string s)) (hf : FormsAt W) (ht : Tabs W) (h0 : J [] W) :
    CallsIn Fence.wide n Tryd.prog 45 #[.func (.yield l) #[] #[], .pointer (some ⟨Bs, 0, none⟩)] W fun e W' => (∃ v, e = .returned v) ∧
      ((∃ ys, ys = refsN (bsOf s) ∧ J ys W') ∨ (∃ pre, pre <+: refsN (bsOf s) ∧ Jx pre W')) := by
  have hcv := Lib.run_convert_string_bytes (P := Tryd.prog) W 9 93 5 s Tryd.underlying9 Tryd.underlying93 Tryd.underlying5
  have hg1 := grownCap_ge W s.size 0 5
  have hg2 := grownCap_le_maxLen W s.size 0 5 (by unfold maxLen; omega)
  unfold maxLen at hg2
  have HX := Lib.hid (bsOf_len s)
  have HXB := Lib.hid (bsOf_b s)
  have hVb := bytesWorld_below W s
  have HBV := Lib.hid (bytesWorld_bytes W s)
  have HNV := Lib.hid (Lib.bytesWorld_at_new W 5 s)
  have HF := Lib.hid (hf.below hVb hf.size)
  have HT := Lib.hid (ht.below hVb ht.size)
  have HJ0 := Lib.hid (hJb _ _ _ h0 hVb)
  have hnV : n₀ ≤ (Lib.bytesWorld W 5 s).heap.size := Nat.le_trans hnW hVb.size
  have hgV : W.heap.size < (Lib.bytesWorld W 5 s).heap.size := by rw [Lib.bytesWorld_size]; omega
  generalize hcap : grownCap W s.size 0 5 = cp at *
  generalize hsz : (Lib.bytesCells W 5 s) = C at *
  generalize hgg : W.heap.size = g at *
  clear hf ht h0 hVb hcap hsz
  refine callsIn_of_wp Tryd.func45 rfl trivial ?_ rfl
  simp only [Tryd.ntmps45, List.size_toArray, List.length_cons, List.length_nil, Nat.reduceAdd, Nat.reduceSub, Array.replicate_succ, Array.replicate_zero, List.push_toArray, List.append_toArray, List.nil_append, List.cons_append]
  gi_wp2
  generalize hvv : Lib.bytesWorld W 5 s = V at *
  generalize hxx : bsOf s = xs at *
  generalize hnn : s.size = len at *
  have XS := Lib.hid hxx
  clear hvv hxx
  gi_loopw [4] (fun at_ wr => ∃ (k : Nat) (pre : List RefR), k ≤ len ∧ at_ = .int .i64 k ∧ Hid (refsN xs = pre ++ refsA xs k) ∧ J pre wr ∧ Hid (Below n₀ V wr) ∧ Hid (wr.heap[g]? = V.heap[g]?)) (fun at_ _ => len + 1 - (intOf at_).toNat)
  case atStart => exact ⟨0, [], by omega, rfl, rfl, HJ0.out, Below.refl _ _, rfl⟩
  case round =>
    obtain ⟨k, pre, hk, rfl, HE, hJ, HK, HG⟩ := hrel
    have BXr := Lib.hid (bytes_row HBV.out hgV HG.out)
    have HFr := Lib.hid (HF.out.below HK.out hT.1)
    have HTr := Lib.hid (HT.out.below HK.out ⟨hT.2.1, hT.2.1, hT.2.2⟩)
    have b0 : (0 : Int) ≤ (k : Int) := by omega
    have b1 : (k : Int) ≤ (len : Int) := by omega
    have b2 : k ≤ cp := by omega
    have b3 : (k : Int) ≤ (cp : Int) := by omega
    by_cases hlt : k < len
    · have hne : ¬ cp = k := by omega
      have hib : Calls Tryd.prog 46 #[.slice (some ⟨g, k, none⟩) (len - k) (cp - k), .int .u8 38] wr fun e w' => e = .returned (.int .i64 (Lib.indexByte (Lib.bytesOf (xs.drop k)) 38)) ∧ w' = wr :=
        Tryd.bytes_IndexByte g k (len - k) (cp - k) (xs.drop k) 38 wr (by rw [List.length_drop, HX.out]) (fun i hi => by rw [getD_drop]; exact row_cell BXr.out (by omega))
      have IB := Lib.hid hib
      clear hib
      rcases Int.lt_or_le (Lib.indexByte (Lib.bytesOf (xs.drop k)) 38) 0 with hx | hx
      · have hx1 : Lib.indexByte (Lib.bytesOf (xs.drop k)) 38 = -1 := by have := Lib.indexByte_ge (Lib.bytesOf (xs.drop k)) 38; omega
        have hno := no38 hx1
        have hskip := refsA_skip xs (len - k) k (fun j h1 _ h3 e => hno (j - k) (by rw [List.getElem?_drop, show k + (j - k) = j by omega, List.getElem?_eq_getElem h3]; rw [List.getD_eq_getElem?_getD, List.getElem?_eq_getElem h3] at e; exact congrArg some e))
        have E2 : Hid (refsN xs = pre) := by
          show _ = _
          rw [HE.out, hskip, refsA_end xs _ (by rw [HX.out]; omega), List.append_nil]
        have IX := Lib.hid hx1
        clear hx hx1 hno hskip HE
        gi_wp2_with fail
        refine ⟨trivial, ?_⟩
        refine (callsIn_wide.2 IB.out).mono ?_
        rintro e w1 ⟨rfl, rfl⟩
        rw [IX.out]
        gi_wp2
        refine bodyPost_ret (results_none rfl _ _ _) rfl ?_
        exact ⟨⟨_, rfl⟩, .inl ⟨_, rfl, by rw [XS.out, E2.out]; exact hJ⟩⟩
      · obtain ⟨d, hd⟩ : ∃ d : Nat, Lib.indexByte (Lib.bytesOf (xs.drop k)) 38 = d := ⟨(Lib.indexByte (Lib.bytesOf (xs.drop k)) 38).toNat, by omega⟩
        obtain ⟨hd1, hd2, hd3⟩ := at38 (drop_b HXB.out k) hd
        rw [List.length_drop, HX.out] at hd1
        have hskip := refsA_skip xs d k (fun j h1 h2 h3 e => hd3 (j - k) (by omega) (by rw [List.getElem?_drop, show k + (j - k) = j by omega, List.getElem?_eq_getElem h3]; rw [List.getD_eq_getElem?_getD, List.getElem?_eq_getElem h3] at e; exact congrArg some e))
        have E2 : Hid (refsN xs = pre ++ refsA xs (k + d)) := by show _ = _; rw [HE.out, hskip]
        have IX := Lib.hid hd
        have hil : k + d < len := by omega
        have EN := Lib.hid (entity_any (some ⟨g, 0, none⟩) len cp (k + d) xs wr (by omega) hg1 (by omega) BXr.out (by omega) HFr.out HTr.out)
        have hgr : g < wr.heap.size := by
          rcases Nat.lt_or_ge g wr.heap.size with h' | h'
          · exact h'
          · have := HG.out; rw [Array.getElem?_eq_none h', Array.getElem?_eq_getElem hgV] at this; cases this
        have c0 : ((k + d : Nat) : Int) = (k : Int) + (d : Int) := by omega
        have CC := Lib.hid c0
        clear hx hd hd2 hd3 hskip HE c0
        cases hp : entN xs 38 (k + d) with
        | mk nm rest =>
        obtain ⟨nx, er⟩ := rest
        rw [hp] at EN
        by_cases he : er = 0
        · subst he
          have hnx := entN_next xs (k + d) (by rw [HX.out]; exact hil) (by rw [hp])
          rw [hp, HX.out] at hnx
          have hnx2 : k + d + 2 ≤ nx ∧ nx ≤ len := ⟨hnx.1, hnx.2.1⟩
          have E3 : Hid (refsN xs = (pre ++ [⟨k + d, nx, nm⟩]) ++ refsA xs nx) := by
            show _ = _
            rw [E2.out, refsA_yes xs (k + d) (by rw [HX.out]; exact hil) (by rw [hp]), hp]; simp
          have hpl : pre.length < len + 1 := by
            have h1 := refsN_len xs
            rw [E3.out, HX.out] at h1
            simp at h1; omega
          clear hp hnx E2
          gi_wp2_with fail
          refine ⟨trivial, ?_⟩
          refine (callsIn_wide.2 IB.out).mono ?_
          rintro e w1 ⟨rfl, rfl⟩
          rw [IX.out]
          gi_wp2_with fail
          rw [← CC.out]
          refine ⟨trivial, ?_⟩
          refine (callsIn_wide.2 EN.out).mono ?_
          rintro e w2 ⟨rfl, hB2⟩
          have HK2 := Lib.hid (HK.out.trans (hB2.mono (Nat.le_trans hnV HK.out.size)))
          have HG2 := Lib.hid ((hB2.block g hgr).trans HG.out)
          have hJ2 := hJb _ _ _ hJ hB2
          obtain ⟨fn, tmps, assign, body, hy, hR⟩ := hY pre ⟨k + d, nx, nm⟩ w2 (by rw [E3.out]; exact List.prefix_append _ _) hJ2 hpl
          dsimp only [refEnc] at hy
          rw [CC.out] at hy
          clear hB2 EN IB IX
          gi_wp2
          refine hR.mono ?_
          rintro e W3 (⟨rfl, hJ3, hk3⟩ | ⟨rfl, hJx3⟩)
          · have HK3 := Lib.hid (HK2.out.trans hk3.1)
            have HG3 : Hid (W3.heap[g]? = V.heap[g]?) := (hk3.2 g C _ _ (marked _) (HG2.out.trans HNV.out)).trans HNV.out.symm
            gi_wp2
            go_roundw
            case rel => exact ⟨nx, pre ++ [⟨k + d, nx, nm⟩], by omega, rfl, E3, hJ3, HK3, HG3⟩
            case measure => simp [intOf]; omega
          · gi_wp2
            refine bodyPost_ret (results_none rfl _ _ _) rfl ?_
            exact ⟨⟨_, rfl⟩, .inr ⟨_, by rw [XS.out, E3.out]; exact List.prefix_append _ _, hJx3⟩⟩
        · have E3 : Hid (refsN xs = pre ++ refsA xs (k + d + 1)) := by
            show _ = _
            rw [E2.out, refsA_no xs (k + d) (by rw [HX.out]; exact hil) (by rw [hp]; exact he)]
          have q1 : (er != 0) = true := by simpa using he
          clear hp E2 he
          gi_wp2_with fail
          refine ⟨trivial, ?_⟩
          refine (callsIn_wide.2 IB.out).mono ?_
          rintro e w1 ⟨rfl, rfl⟩
          rw [IX.out]
          gi_wp2_with fail
          rw [← CC.out]
          refine ⟨trivial, ?_⟩
          refine (callsIn_wide.2 EN.out).mono ?_
          rintro e w2 ⟨rfl, hB2⟩
          have HK2 := Lib.hid (HK.out.trans (hB2.mono (Nat.le_trans hnV HK.out.size)))
          have HG2 := Lib.hid ((hB2.block g hgr).trans HG.out)
          have hJ2 := hJb _ _ _ hJ hB2
          clear hB2 EN IB IX
          gi_wp2
          go_roundw
          case rel => exact ⟨k + d + 1, pre, by omega, by go_num, E3, hJ2, HK2, HG2⟩
          case measure => simp [intOf]; omega
    · obtain rfl : k = len := by omega
      have E2 : Hid (refsN xs = pre) := by
        show _ = _
        rw [HE.out, refsA_end xs _ (by rw [HX.out]; exact Nat.le_refl _), List.append_nil]
      clear HE
      by_cases hck : cp = k
      · subst hck
        have IB : Hid (Calls Tryd.prog 46 #[.slice (some ⟨g, 0, none⟩) 0 0, .int .u8 38] wr fun e w' => e = .returned (.int .i64 (-1)) ∧ w' = wr) :=
          Tryd.bytes_IndexByte g 0 0 0 [] 38 wr rfl (fun i hi => by omega)
        gi_wp2_with fail
        refine ⟨trivial, ?_⟩
        refine (callsIn_wide.2 IB.out).mono ?_
        rintro e w1 ⟨rfl, rfl⟩
        gi_wp2
        refine bodyPost_ret (results_none rfl _ _ _) rfl ?_
        exact ⟨⟨_, rfl⟩, .inl ⟨_, rfl, by rw [XS.out, E2.out]; exact hJ⟩⟩
      · have IB : Hid (Calls Tryd.prog 46 #[.slice (some ⟨g, k, none⟩) 0 (cp - k), .int .u8 38] wr fun e w' => e = .returned (.int .i64 (-1)) ∧ w' = wr) :=
          Tryd.bytes_IndexByte g k 0 (cp - k) [] 38 wr rfl (fun i hi => by omega)
        gi_wp2_with fail
        refine ⟨trivial, ?_⟩
        refine (callsIn_wide.2 IB.out).mono ?_
        rintro e w1 ⟨rfl, rfl⟩
        gi_wp2
        refine bodyPost_ret (results_none rfl _ _ _) rfl ?_
        exact ⟨⟨_, rfl⟩, .inl ⟨_, rfl, by rw [XS.out, E2.out]; exact hJ⟩⟩
theorem each_stops (n : Nat) (hn : 1 ≤ n) (Bs n₀ : Nat) (s : ByteArray) (hlen : s.size ≤ 1099511627776) (hT : 4 < n₀ ∧ 2 < n₀ ∧ 3 < n₀) (w : World) (hBs : Bs < w.heap.size) (hn₀ : n₀ ≤ w.heap.size)
    (hc : w.cell? ⟨Bs, 0, none⟩ = some (.string s)) (hf : FormsAt w) (ht : Tabs w) :
    SeqStopsK Fence.wide n Tryd.prog 45 #[.pointer (some ⟨Bs, 0, none⟩)] refEnc (KpR n₀) (fun ys => ys = refsN (bsOf s)) (fun pre => pre <+: refsN (bsOf s)) (s.size + 1) w := fun l J Jx W hW hJ _ hY h0 =>
  each1_in n hn l Bs n₀ s hlen hT J Jx (fun q W W' hj hb => hJ q W W' none hj ⟨hb.os, hb.tape, hb.output, hb.size, fun k hk _ => hb.block k hk⟩ (fun r e => by cases e)) (fun pre x W _ hj hl => hY pre x W hj hl) W (Nat.le_trans hn₀ hW.size)
    ((hW.cell (p := ⟨Bs, 0, none⟩) hBs).trans hc) (hf.below hW hf.size) (ht.below hW ht.size) h0
theorem each_any (s : ByteArray) (w : World) :
    Calls Tryd.prog 38 #[.string s] w fun e w' => e = .returned (.func (.func 45) #[] #[.pointer (some ⟨w.heap.size, 0, none⟩)]) ∧ w' = w.alloc (.cells #[.string s] 9) := by
  go_enter Tryd.func38, Tryd.ntmps38
  go_wp2
  go_ret
  exact ⟨rfl, rfl⟩
end Go.Proofs.YtkeclfhhilphpaaDoor
