/- The contract of scope's All. Conditions: at most 2^20 of each. -/
import Derived.Test.YtbamcpnmabpacaaScSort
import Derived.Deep.Cut
namespace Go.Proofs.Ytbamcpnmabpacaa
open Go.RowKit
set_option linter.unusedVariables false
set_option linter.unusedSimpArgs false
def okP (b : Bd) : Bool := !decide (b.p = xmlB) && !decide (b.p = xmlnsB)
def namesL (f : List Bd) : List ByteArray := (f.filter okP).map Bd.p
def namesF (fs : List (List Bd)) : List ByteArray := fs.flatMap namesL
def bsS (l : List UInt8) : ByteArray := ⟨l.toArray⟩
theorem bsS_key (x : ByteArray) : bsS (keyS x) = x := by unfold bsS keyS; simp
theorem key_bsS (l : List UInt8) : keyS (bsS l) = l := by unfold bsS keyS; simp
def uniqF (fs : List (List Bd)) : List (List UInt8) := Lib.compact (((namesF fs).map keyS).mergeSort fun x y => decide (x ≤ y))
def meansF (fs : List (List Bd)) (l : List (List UInt8)) : List Bd := l.filterMap fun n => if (ansF (meanF fs (bsS n)) (bsS n)).1 = ⟨#[]⟩ then none else some ⟨bsS n, (ansF (meanF fs (bsS n)) (bsS n)).1⟩
def allF (fs : List (List Bd)) : List Bd := meansF fs (uniqF fs)
theorem namesL_len (f : List Bd) : (namesL f).length ≤ f.length := by unfold namesL; rw [List.length_map]; exact List.length_filter_le ..
theorem namesL_succ (f : List Bd) (i : Nat) (y : Bd) (h : f[i]? = some y) : namesL (f.take (i + 1)) = namesL (f.take i) ++ (if okP y then [y.p] else []) := by
  unfold namesL
  rw [List.take_add_one, h]
  simp only [Option.toList_some, List.filter_append, List.map_append]
  congr 1
  by_cases hk : okP y = true <;> simp [List.filter, hk]
theorem meansF_snoc (fs : List (List Bd)) (l : List (List UInt8)) (n : List UInt8) : meansF fs (l ++ [n]) = meansF fs l ++ (if (ansF (meanF fs (bsS n)) (bsS n)).1 = ⟨#[]⟩ then [] else [⟨bsS n, (ansF (meanF fs (bsS n)) (bsS n)).1⟩]) := by
  unfold meansF
  rw [List.filterMap_append]
  congr 1
  by_cases h : (ansF (meanF fs (bsS n)) (bsS n)).1 = ⟨#[]⟩ <;> simp [h]
theorem meansF_len (fs : List (List Bd)) (l : List (List UInt8)) : (meansF fs l).length ≤ l.length := List.length_filterMap_le ..
def AllS (fs : List (List Bd)) (w : World) (e : Ending) (w' : World) : Prop := ∃ R c, e = .returned (.slice R (allF fs).length c) ∧ w'.ownsRow w.heap.size 40 2 (.slice R (allF fs).length c) (allF fs).length (bdCells (allF fs)) ∧ Below w.heap.size w w'
theorem Try.infoStrS : (Try.prog.info? 9).map (fun i => (i.zero, i.size, i.bytes)) = some (some (.string ByteArray.empty), 1, 16) := by kernel_rfl
theorem all_nil (w : World) : Calls Try.prog 12 #[.pointer none] w (RetS (.slice none 0 0) w) := by
  go_enter Try.func12, Try.ntmps12
  go_wp2
  go_ret
  exact ⟨rfl, rfl⟩
theorem oneS (w : World) (x : Value) (t : TypeId) : Source (w.alloc (.cells #[x] t)) (some ⟨w.heap.size, 0, none⟩) 1 1 [x] :=
  ⟨fun h => (by cases h), fun ad hA j u hj => by
    cases hA
    match j, hj with
    | 0, hj => simp at hj; subst hj; simp [Addr.add]
    | (j + 1), hj => simp at hj⟩
theorem twoS (w : World) (x y : Value) (t : TypeId) : Source (w.alloc (.cells #[x, y] t)) (some ⟨w.heap.size, 0, none⟩) 1 1 [x, y] :=
  ⟨fun h => (by cases h), fun ad hA j u hj => by
    cases hA
    match j, hj with
    | 0, hj => simp at hj; subst hj; simp [Addr.add]
    | 1, hj => simp at hj; subst hj; simp [Addr.add]
    | (j + 2), hj => simp at hj⟩
theorem txtS_len (l : List ByteArray) : (txtS l).length = l.length := by simp [txtS]
theorem sumTail {f : List Bd} {gs : List (List Bd)} : ((f :: gs).map List.length).sum = f.length + (gs.map List.length).sum := by simp
theorem slice_ownS (A : Option Addr) (n c : Nat) : (Value.slice A n c).ownBlock = A.map Addr.block := by cases A <;> rfl
theorem le_sum {f : List Bd} {fs : List (List Bd)} (h : f ∈ fs) : f.length ≤ (fs.map List.length).sum := by
  induction fs with
  | nil => cases h
  | cons g fs ih =>
    rw [sumTail]
    rcases List.mem_cons.1 h with e | e
    · subst e; omega
    · have := ih e; omega
theorem own_at {w : World} {base n c : Nat} {e : TypeId} {A : Option Addr} {xs : List Value} (h : w.ownsRow base e 1 (.slice A n c) n xs) {i : Nat} {u : Value} (hx : xs[i]? = some u) : ∃ a, A = some a ∧ w.cell? (a.add i) = some u := by
  rcases h.2 with ⟨h1, h2⟩ | ⟨g, cap, cur, hv, hg, hh, _⟩
  · have := h.1
    rw [h2, Nat.zero_mul] at this
    rw [List.eq_nil_of_length_eq_zero this] at hx
    simp at hx
  · cases hv
    exact ⟨_, rfl, h.cells rfl i u hx⟩
set_option maxRecDepth 100000 in
set_option maxHeartbeats 4000000 in
theorem allS_any (base g : Nat) (fs : List (List Bd)) (p : Option Addr) (w : World) (h : ScAt w base g fs p) (hn : (fs.map List.length).sum ≤ 1048576) : Calls Try.prog 12 #[.pointer (some ⟨g, 0, none⟩)] w (AllS fs w) := by
  obtain ⟨i0, hi0, hz0, hz1, hz2⟩ := info_partsS Try.infoStrS
  obtain ⟨j0, hj0, hy0, hy1, hy2⟩ := info_partsS Try.infoBd
  obtain ⟨c0, -, -, -⟩ := h.c0
  have HF := Lib.hid h.fr
  have HSC := Lib.hid h
  have HN := Lib.hid hn
  clear h
  go_enter Try.func12, Try.ntmps12
  go_wp2
  go_loopg [3, 4] fs.length (fun gk v3 v4 wr => ∃ (dn : List ByteArray) (gs : List (List Bd)) (q : Option Addr), gs.length = gk ∧ v4 = .pointer q ∧ Hid (FrAt w base q gs) ∧ Hid (wr.ownsRow w.heap.size 9 1 v3 dn.length (txtS dn)) ∧ Hid (dn ++ namesF gs = namesF fs) ∧ Hid (dn.length + (gs.map List.length).sum ≤ 1048576) ∧ Hid (Below w.heap.size w wr))
  case atStart => exact ⟨[], fs, p, rfl, rfl, HF, Lib.hid (World.ownsRow_nil _ _ _ _), Lib.hid rfl, Lib.hid (by simpa using HN.out), Lib.hid (Below.refl _ _)⟩
  case round =>
    obtain ⟨dn, gs, q, hgk, rfl, HQ, HO, HE, HM, HB⟩ := hrel
    obtain ⟨go, hgo⟩ : ∃ go, go = gk := ⟨_, rfl⟩
    rw [← hgo] at hgk
    obtain ⟨A3, c3, rfl, -, -, -⟩ := ownS_shape HO.out
    cases gs with
    | nil =>
      obtain rfl : q = none := HQ.out
      have hdn : dn = namesF fs := by have := HE.out; simpa [namesF] using this
      have hdl : dn.length ≤ 1048576 := by have := HM.out; simp at this; exact this
      have HO2 : Hid (wr.ownsRow w.heap.size 9 1 (.slice A3 (dn.map keyS).length c3) (dn.map keyS).length ((dn.map keyS).map encStr)) := Lib.hid (by have h := HO.out; rw [encS] at h; simpa using h)
      have CS := Lib.hid (sortOwnS A3 c3 w.heap.size (dn.map keyS) wr HO2.out (by rw [List.length_map]; omega) HB.out.size)
      rw [List.length_map] at CS
      have HDN := Lib.hid hdn
      clear hdn
      go_wp2_with fail
      refine CS.out.mono ?_
      rintro e w2 ⟨rfl, ho2, hg2⟩
      have hlm : ((dn.map keyS).mergeSort fun x y => decide (x ≤ y)).length = dn.length := by rw [List.length_mergeSort, List.length_map]
      obtain ⟨so, hso⟩ : ∃ so, so = (dn.map keyS).mergeSort fun x y => decide (x ≤ y) := ⟨_, rfl⟩
      rw [← hso] at ho2 hlm
      have hu : Lib.compact so = uniqF fs := by unfold uniqF; rw [hso, HDN.out]
      have CC := compactOwnS A3 c3 w.heap.size so w2 (by rw [hlm]; exact ho2) (by omega)
      rw [hu, hlm] at CC
      have CC := Lib.hid CC
      have HB2 := Lib.hid (HB.out.grown hg2 HB.out.size (fun g hg => (ownS_blk HO.out hg).2.1))
      have hul : (uniqF fs).length ≤ 1048576 := by
        have := Lib.compact_length_le so
        rw [hu] at this
        omega
      clear ho2 hg2 CS hso hu hlm HO HO2 HDN HE HM
      go_wp2_with fail
      refine CC.out.mono ?_
      rintro e w3 ⟨rfl, ho3, hg3⟩
      have HB3 := Lib.hid (HB2.out.grown hg3 HB2.out.size (fun g hg => (ownS_blk ho3 (by rw [slice_ownS] at hg ⊢; exact hg)).2.1))
      have HN3 := Lib.hid ho3
      have HALL : Hid (meansF fs (uniqF fs) = allF fs) := Lib.hid rfl
      have HSUM : Hid (∀ f ∈ fs, f.length ≤ 1048576) := Lib.hid (fun f hf => Nat.le_trans (le_sum hf) HN.out)
      clear ho3 hg3 CC
      generalize uniqF fs = U at *
      go_wp2
      go_loopw [8, 55] (fun v8 v55 wx => ∃ i : Nat, i ≤ U.length ∧ v55 = .int .i64 i ∧ Hid (wx.ownsRow w.heap.size 40 2 v8 (meansF fs (U.take i)).length (bdCells (meansF fs (U.take i)))) ∧ Hid (wx.ownsRow w.heap.size 9 1 (.slice A3 U.length c3) U.length (U.map encStr)) ∧ Hid (Below w.heap.size w wx)) (fun _ v55 _ => U.length - (intOf v55).toNat)
      case atStart => exact ⟨0, Nat.zero_le _, rfl, Lib.hid (World.ownsRow_nil _ _ _ _), HN3, HB3⟩
      case round =>
        obtain ⟨i, hi, rfl, HL, HNM, HBW⟩ := hrel
        obtain ⟨A8, c8, rfl, -, -, -⟩ := ownS_shape HL.out
        by_cases hlt : i < U.length
        · obtain ⟨n, hn⟩ : ∃ n, U[i]? = some n := ⟨_, List.getElem?_eq_getElem hlt⟩
          obtain ⟨a, rfl, hca⟩ := own_at HNM.out (i := i) (u := .string (bsS n)) (by rw [List.getElem?_map, hn]; rfl)
          have b0 : (0 : Int) ≤ (i : Int) := by omega
          have b1 : (i : Int) < (U.length : Int) := by omega
          have CF := find_any base g fs p (bsS n) wr (HSC.out.below HBW.out) HSUM.out
          have HSN : Hid (meansF fs (U.take (i + 1)) = meansF fs (U.take i) ++ (if (ansF (meanF fs (bsS n)) (bsS n)).1 = ⟨#[]⟩ then [] else [⟨bsS n, (ansF (meanF fs (bsS n)) (bsS n)).1⟩])) := Lib.hid (by
            rw [List.take_add_one, hn]
            exact meansF_snoc fs (U.take i) n)
          have hml := meansF_len fs (U.take i)
          rw [List.length_take] at hml
          have hml2 : (meansF fs (U.take i)).length ≤ 1048576 := by omega
          obtain ⟨⟨m, ok⟩, hm⟩ : ∃ t, t = ansF (meanF fs (bsS n)) (bsS n) := ⟨_, rfl⟩
          rw [← hm] at CF HSN
          have CF := Lib.hid CF
          have LN := Lib.hid (bdCells_len (meansF fs (U.take i)))
          clear hn hm hml
          generalize bsS n = nb at *
          generalize meansF fs (U.take i) = ml at *
          go_wp2_with fail
          refine CF.out.mono ?_
          rintro e w5 ⟨rfl, rfl⟩
          by_cases hme : m = ⟨#[]⟩
          · subst hme
            have HL2 : Hid (wr.ownsRow w.heap.size 40 2 (.slice A8 ml.length c8) (meansF fs (U.take (i + 1))).length (bdCells (meansF fs (U.take (i + 1))))) := Lib.hid (by rw [HSN.out]; simpa using HL.out)
            go_wp2
            go_roundw
            case rel => exact ⟨i + 1, by omega, by go_num, HL2, HNM, HBW⟩
            case measure => simp [intOf]; omega
          · have t1 := str_noS hme
            rw [show (⟨#[]⟩ : ByteArray).toList = [] from by simp [ByteArray.toList_eq]] at t1
            have HSN2 : Hid (meansF fs (U.take (i + 1)) = ml ++ [⟨nb, m⟩]) := Lib.hid (by rw [HSN.out]; simp [hme])
            have HO5 := Lib.hid (HL.out.alloc (.cells #[.string nb, .string m] 40))
            have HN5 := Lib.hid (HNM.out.alloc (.cells #[.string nb, .string m] 40))
            have HX5 := Lib.hid (twoS wr (.string nb) (.string m) 40)
            have HBW5 := Lib.hid (HBW.out.alloc HBW.out.size (.cells #[.string nb, .string m] 40))
            clear hme
            go_wp2_with (at_builtin; refine wpList_append_src rfl (.tmp 67) (.tmp 71) 32 rfl w.heap.size 40 j0 (.agg #[.string ByteArray.empty, .string ByteArray.empty]) 2 32 Try.underlying32 hj0 hy0 hy1 hy2 rfl (by decide) _ _ _ rfl HO5.out _ 1 1 [.string nb, .string m] rfl rfl HX5.out (by intro u hu; simp at hu; rcases hu with rfl | rfl <;> rfl) (by unfold maxLen; omega) (by omega) HBW5.out.size ?_)
            intro v6 w6 ho6 hg6 _
            have HL2 : Hid (w6.ownsRow w.heap.size 40 2 v6 (meansF fs (U.take (i + 1))).length (bdCells (meansF fs (U.take (i + 1))))) := Lib.hid (by rw [HSN2.out, bdCells_append, List.length_append]; exact ho6)
            have HN6 := Lib.hid (ownS_same HN5.out (fun j hj => hg6.block j (ownS_blk HN5.out hj).1 (fun e => by
              obtain ⟨_, _, cs, hc⟩ := ownS_blk HN5.out hj
              exact ownS_ne HO5.out hc (by decide) e.symm)))
            have HBW6 := Lib.hid (HBW5.out.grown hg6 HBW5.out.size (fun g hg => (ownS_blk HO5.out hg).2.1))
            clear ho6 hg6
            go_wp2
            go_roundw
            case rel => exact ⟨i + 1, by omega, by go_num, HL2, HN6, HBW6⟩
            case measure => simp [intOf]; omega
        · obtain rfl : i = U.length := by omega
          have b1 : ¬ (U.length : Int) < (U.length : Int) := by omega
          have HX := HL.out
          rw [List.take_length, HALL.out] at HX
          have hl8 := HALL.out
          rw [List.take_length, HALL.out]
          have HX := Lib.hid HX
          clear hl8
          go_wp2
          go_ret
          exact ⟨A8, c8, rfl, HX.out, HBW.out⟩
    | cons f gs =>
      obtain ⟨b, A, c, q', rfl, hb, hh, ho, hf⟩ := HQ.out
      have d0 : wr.cell? ⟨b, 0, none⟩ = some (.slice A f.length c) := by rw [Lib.cell_of_heap ((HB.out.block _ (Array.getElem?_eq_some_iff.1 hh).1).trans hh)]; rfl
      have HFB := Lib.hid (BdsAt.of_own ho)
      have HH := Lib.hid hh
      have HQ' := Lib.hid hf
      have hl : dn.length + f.length ≤ 1048576 := by have := HM.out; rw [sumTail] at this; omega
      clear hh ho hf
      go_wp2
      go_loopw [3, 30] (fun v3 v30 wx => ∃ (i : Nat), i ≤ f.length ∧ v30 = .int .i64 i ∧ Hid (wx.ownsRow w.heap.size 9 1 v3 (dn ++ namesL (f.take i)).length (txtS (dn ++ namesL (f.take i)))) ∧ Hid (Below w.heap.size w wx)) (fun _ v30 _ => f.length - (intOf v30).toNat)
      case atStart => exact ⟨0, Nat.zero_le _, rfl, by simpa [namesL] using HO, HB⟩
      case round =>
        obtain ⟨i, hi, rfl, HOI, HBW⟩ := hrel
        obtain ⟨A4, c4, rfl, -, -, -⟩ := ownS_shape HOI.out
        by_cases hlt : i < f.length
        · obtain ⟨a, y, rfl, hy, hat⟩ := HFB.out.2 i hlt
          obtain ⟨hyb, y0, y1⟩ := hat.below HBW.out hat.1
          have b0 : (0 : Int) ≤ (i : Int) := by omega
          have b1 : (i : Int) < (f.length : Int) := by omega
          obtain ⟨W1, hW1, hb1, hh1, hlt1⟩ := frBox wr #[.string y.p, .string y.s] 40
          have e0 : W1.cell? ⟨wr.heap.size, 0, none⟩ = some (.string y.p) := by rw [Lib.cell_of_heap hh1]; rfl
          have HO1 := Lib.hid (ownS_below HOI.out hb1)
          have HBW1 := Lib.hid (HBW.out.trans (hb1.mono HBW.out.size))
          have HS := Lib.hid (namesL_succ f i y hy)
          have hnl := namesL_len (f.take i)
          rw [List.length_take] at hnl
          have hlen : (dn ++ namesL (f.take i)).length ≤ 1048576 := by rw [List.length_append]; omega
          have hadd : ∀ (v : Value) (w5 : World), (∀ z, okP y = z → w5.ownsRow w.heap.size 9 1 v (dn ++ namesL (f.take i) ++ (if z then [y.p] else [])).length (txtS (dn ++ namesL (f.take i) ++ (if z then [y.p] else [])))) → w5.ownsRow w.heap.size 9 1 v (dn ++ namesL (f.take (i + 1))).length (txtS (dn ++ namesL (f.take (i + 1)))) := fun v w5 h => by
            rw [HS.out, ← List.append_assoc]; exact h _ rfl
          have HADD := Lib.hid hadd
          clear hadd HS hnl
          generalize dn ++ namesL (f.take i) = nm at *
          have skip : okP y = false → Hid (W1.ownsRow w.heap.size 9 1 (.slice A4 nm.length c4) (dn ++ namesL (f.take (i + 1))).length (txtS (dn ++ namesL (f.take (i + 1))))) := fun hk => Lib.hid (HADD.out _ _ (fun z hz => by rw [← hz, hk]; simpa using HO1.out))
          have SKIP := Lib.hid skip
          clear skip hy hat hyb hh1
          by_cases h1 : y.p = xmlB
          · have t1 : (y.p.toList == [120, 109, 108]) = true := by rw [h1]; simp [xmlB, ByteArray.toList_eq]
            have HK := SKIP.out (by unfold okP; simp [h1])
            clear h1
            go_wp2
            go_roundw
            case rel => exact ⟨i + 1, by omega, by go_num, HK, HBW1⟩
            case measure => simp [intOf]; omega
          · have t1 := str_noS h1
            rw [show xmlB.toList = [120, 109, 108] from by simp [xmlB, ByteArray.toList_eq]] at t1
            by_cases h2 : y.p = xmlnsB
            · have t2 : (y.p.toList == [120, 109, 108, 110, 115]) = true := by rw [h2]; simp [xmlnsB, ByteArray.toList_eq]
              have HK := SKIP.out (by unfold okP; simp [h2])
              clear h1 h2
              go_wp2
              go_roundw
              case rel => exact ⟨i + 1, by omega, by go_num, HK, HBW1⟩
              case measure => simp [intOf]; omega
            · have t2 := str_noS h2
              rw [show xmlnsB.toList = [120, 109, 108, 110, 115] from by simp [xmlnsB, ByteArray.toList_eq]] at t2
              have hok : okP y = true := by unfold okP; simp [h1, h2]
              have HOK := Lib.hid hok
              have LN := Lib.hid (txtS_len nm)
              have HO5 := Lib.hid (HO1.out.alloc (.cells #[.string y.p] 9))
              have HX5 := Lib.hid (oneS W1 (.string y.p) 9)
              have HBW5 := Lib.hid (HBW1.out.alloc HBW1.out.size (.cells #[.string y.p] 9))
              clear h1 h2 hok
              go_wp2_with (at_builtin; refine wpList_append_src rfl (.tmp 42) (.tmp 45) 47 rfl w.heap.size 9 i0 (.string ByteArray.empty) 1 16 Try.underlying47 hi0 hz0 hz1 hz2 rfl (by decide) _ _ _ rfl HO5.out _ 1 1 [.string y.p] rfl rfl HX5.out (by intro u hu; simp at hu; subst hu; rfl) (by unfold maxLen; omega) (by omega) HBW5.out.size ?_)
              intro v6 w6 ho6 hg6 _
              have HK : Hid (w6.ownsRow w.heap.size 9 1 v6 (dn ++ namesL (f.take (i + 1))).length (txtS (dn ++ namesL (f.take (i + 1))))) := Lib.hid (HADD.out _ _ (fun z hz => by rw [← hz, HOK.out]; simpa [txtS] using ho6))
              have HB6 := Lib.hid (HBW5.out.grown hg6 HBW5.out.size (fun g hg => (ownS_blk HO5.out hg).2.1))
              clear ho6 hg6
              go_wp2
              go_roundw
              case rel => exact ⟨i + 1, by omega, by go_num, HK, HB6⟩
              case measure => simp [intOf]; omega
        · obtain rfl : i = f.length := by omega
          have b1 : ¬ (f.length : Int) < (f.length : Int) := by omega
          have d1 : wr.cell? ⟨b, 1, none⟩ = some (.pointer q') := by rw [Lib.cell_of_heap ((HBW.out.block _ (Array.getElem?_eq_some_iff.1 HH.out).1).trans HH.out)]; rfl
          have HO2 : Hid (wr.ownsRow w.heap.size 9 1 (.slice A4 (dn.length + (namesL f).length) c4) (dn ++ namesL f).length (txtS (dn ++ namesL f))) := Lib.hid (by have h := HOI.out; rw [List.take_length] at h; rw [← List.length_append]; exact h)
          have hnf := namesL_len f
          go_wp2
          go_roundg (go - 1)
          case measure => simp at hgk; omega
          case rel =>
            refine ⟨dn ++ namesL f, gs, q', by simp at hgk; omega, rfl, HQ', HO2, Lib.hid ?_, Lib.hid ?_, HBW⟩
            · have := HE.out; simp only [namesF, List.flatMap_cons] at this ⊢; rw [List.append_assoc]; exact this
            · have := HM.out; rw [sumTail] at this; rw [List.length_append]; omega
end Go.Proofs.Ytbamcpnmabpacaa
