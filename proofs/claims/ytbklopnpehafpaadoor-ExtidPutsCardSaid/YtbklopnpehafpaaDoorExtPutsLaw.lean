/- Merged texts: ExtPutsL, IdArg. -/
import Derived.Test.YtbklopnpehafpaaDoorExtPut
import Derived.OpenShut
/- The walk of ExtidPuts. Conditions: the tables of chars and of utf hold what the text gives them. -/
namespace Go.Proofs.YtbklopnpehafpaaDoor
open Go.RowKit Go.Proofs.YtbklopnpehafpaaDoor.UtfPlain Go.Proofs.YtbklopnpehafpaaDoor.NamePlain Go.Proofs.YtbklopnpehafpaaDoor.CharsPlain
set_option linter.unusedVariables false
set_option linter.unusedSimpArgs false
theorem bsOf_app (a b : ByteArray) : bsOf (a ++ b) = bsOf a ++ bsOf b := by
  unfold bsOf
  rw [ByteArray.data_append, Array.toList_append, List.map_append]
theorem hasC_no {s : ByteArray} {c : UInt8} (h : hasC s c = false) : (c.toNat : Int) ∉ bsOf s := by
  unfold hasC at h
  intro hm
  unfold bsOf at hm
  obtain ⟨b, hb, he⟩ := List.mem_map.1 hm
  have : b = c := UInt8.toNat_inj.1 (by omega)
  subst this
  rw [List.contains_iff_mem.2 hb] at h
  cases h
theorem putQ_bs (two : Bool) : bsOf (putQ two) = if two then [39] else [34] := by cases two <;> decide +kernel
theorem put_read (pub sys : ByteArray) (h : putOk pub sys = true) : extN (bsOf (putT pub sys)) 0 = (bsOf pub, bsOf sys, ((putT pub sys).size : Int), 0) := by
  have hk := h
  unfold putOk at hk
  rw [Bool.and_eq_true] at hk
  obtain ⟨hp, hq⟩ := hk
  obtain ⟨q, hq1, hq2, hq3⟩ : ∃ q : Int, bsOf (putQ (hasC sys 34)) = [q] ∧ (q = 34 ∨ q = 39) ∧ q ∉ bsOf sys := by
    rw [putQ_bs]
    cases h2 : hasC sys 34 with
    | true =>
      rw [h2, Bool.true_and] at hq
      exact ⟨39, rfl, .inr rfl, hasC_no (c := 39) (by simpa using hq)⟩
    | false => exact ⟨34, rfl, .inl rfl, hasC_no (c := 34) h2⟩
  have hz := fun s : ByteArray => (bsOf_len s).symm
  by_cases he : pub = ⟨#[]⟩
  · rw [put_sys h he]
    have e1 : bsOf (⟨#[83, 89, 83, 84, 69, 77, 32]⟩ ++ putQ (hasC sys 34) ++ sys ++ putQ (hasC sys 34)) = systemB ++ 32 :: q :: (bsOf sys ++ [q]) := by
      simp only [bsOf_app, hq1]
      rw [show bsOf ⟨#[83, 89, 83, 84, 69, 77, 32]⟩ = systemB ++ [32] from by decide +kernel]
      simp
    rw [hz, e1, ext_system (bsOf sys) q hq2 hq3, he]
    refine Prod.ext (show ([] : List Int) = bsOf ⟨#[]⟩ from by decide +kernel) (Prod.ext rfl (Prod.ext ?_ rfl))
    show ((bsOf sys).length : Int) + 9 = _
    simp [systemB]
    omega
  · rw [put_pub h he]
    have e1 : bsOf (⟨#[80, 85, 66, 76, 73, 67, 32, 34]⟩ ++ pub ++ ⟨#[34, 32]⟩ ++ putQ (hasC sys 34) ++ sys ++ putQ (hasC sys 34)) = publicB ++ 32 :: 34 :: (bsOf pub ++ 34 :: 32 :: q :: (bsOf sys ++ [q])) := by
      simp only [bsOf_app, hq1]
      rw [show bsOf ⟨#[80, 85, 66, 76, 73, 67, 32, 34]⟩ = publicB ++ [32, 34] from by decide +kernel, show bsOf ⟨#[34, 32]⟩ = [34, 32] from by decide +kernel]
      simp
    rw [hz, e1, ext_public (bsOf pub) (bsOf sys) q hq2 hq3 hp]
    refine Prod.ext rfl (Prod.ext rfl (Prod.ext ?_ rfl))
    show ((bsOf pub).length : Int) + (bsOf sys).length + 12 = _
    simp [publicB]
    omega
theorem putS_size (pub sys : ByteArray) (hp : pub.size ≤ 300) (hs : sys.size ≤ 300) : (putT pub sys).size ≤ 1000 := by
  have hq : ∀ b, (putQ b).size = 1 := fun b => by cases b <;> rfl
  have z1 : (⟨#[83, 89, 83, 84, 69, 77, 32]⟩ : ByteArray).size = 7 := rfl
  have z2 : (⟨#[80, 85, 66, 76, 73, 67, 32, 34]⟩ : ByteArray).size = 8 := rfl
  have z3 : (⟨#[34, 32]⟩ : ByteArray).size = 2 := rfl
  have z4 : (⟨#[]⟩ : ByteArray).size = 0 := rfl
  unfold putT
  split
  · unfold putS
    split
    · simp only [ByteArray.size_append, hq, z1]; omega
    · simp only [ByteArray.size_append, hq, z2, z3]; omega
  · omega
set_option maxRecDepth 100000 in
set_option maxHeartbeats 4000000 in
theorem extidPuts_any (pub sys : ByteArray) (w : World) (hf : FormsAt w) (ht : Tabs w) :
    Calls Tryd.prog 4 #[.agg #[.string pub, .string sys]] w (BelB true w) := by
  obtain ⟨W, hW⟩ : ∃ W, W = w.alloc (.cells #[.string pub, .string sys] 25) := ⟨_, rfl⟩
  have hBW : Below w.heap.size w W := by rw [hW]; exact (Below.refl _ _).alloc (Nat.le_refl _) _
  have hIB : IdBlk w.heap.size pub sys W := by
    unfold IdBlk
    rw [hW, World.alloc]; simp
  have LV := fun V (hV : Below w.heap.size w V) => live13_any V (hf.below hV hf.size) (ht.below hV ht.size)
  have LV := Lib.hid LV
  have HW := Lib.hid hW
  have HIB := Lib.hid hIB
  have HBW := Lib.hid hBW
  by_cases hl : 300 < pub.size ∨ 300 < sys.size
  · clear hf ht hBW hIB hW
    by_cases h1 : 300 < pub.size
    · have t1 : (300 : Int) < (pub.size : Int) := by omega
      clear hl h1
      go_enter Tryd.func4, Tryd.ntmps4
      go_wp2_with fail
      rw [← HW.out]
      refine (LV.out _ HBW.out).mono ?_
      rintro e w1 ⟨rfl, hB⟩
      go_wp2
      go_ret
      exact ⟨rfl, HBW.out.trans (hB.mono HBW.out.size)⟩
    · have t1 : ¬ (300 : Int) < (pub.size : Int) := by omega
      have t2 : (300 : Int) < (sys.size : Int) := by omega
      clear hl h1
      go_enter Tryd.func4, Tryd.ntmps4
      go_wp2_with fail
      rw [← HW.out]
      refine (LV.out _ HBW.out).mono ?_
      rintro e w1 ⟨rfl, hB⟩
      go_wp2
      go_ret
      exact ⟨rfl, HBW.out.trans (hB.mono HBW.out.size)⟩
  · have hp : pub.size ≤ 300 := by omega
    have hs : sys.size ≤ 300 := by omega
    have t1 : ¬ (300 : Int) < (pub.size : Int) := by omega
    have t2 : ¬ (300 : Int) < (sys.size : Int) := by omega
    have P1 := fun V (hV : Below w.heap.size w V) => put_any pub sys V hp hs (hf.below hV hf.size) (ht.below hV ht.size)
    have P2 := fun V => rput_any pub sys V hp hs
    have hrd := put_read pub sys
    have hno := put_no (pub := pub) (sys := sys)
    have hz := putS_size pub sys hp hs
    generalize putT pub sys = T at P1 P2 hrd hz hno
    generalize putOk pub sys = ok at P1 P2 hrd hno
    have EX := fun V (hV : Below w.heap.size w V) =>
      have hC := hV.trans ((bytesWorld_below V T).mono hV.size)
      have hg1 := grownCap_ge V T.size 0 5
      have hg2 := grownCap_le_maxLen V T.size 0 5 (by unfold maxLen; omega)
      ext_any (some ⟨V.heap.size, 0, none⟩) T.size (grownCap V T.size 0 5) 0 (bsOf T) _ (by omega) hg1 (by unfold maxLen at hg2; omega) (bytesWorld_bytes V T) (hf.below hC hf.size) (ht.below hC ht.size)
    have P1 := Lib.hid P1
    have P2 := Lib.hid P2
    clear hf ht hBW hIB hW hl
    cases ok with
    | false =>
      have HN := Lib.hid (hno rfl)
      clear hrd EX hno hz hp hs
      have tT : (T.toList == []) = true := by rw [HN.out, ByteArray.toList_eq]; rfl
      obtain ⟨i0, i1, j0, j1⟩ := HIB.out.cells
      go_enter Tryd.func4, Tryd.ntmps4
      go_wp2_with fail
      rw [← HW.out]
      refine (P1.out _ HBW.out).mono ?_
      rintro e w1 ⟨rfl, hB1⟩
      have HB1 := Lib.hid (HBW.out.trans (hB1.mono HBW.out.size))
      have hI1 := HIB.out.below hB1
      clear hB1 i0 i1 j0 j1
      obtain ⟨i0, i1, j0, j1⟩ := hI1.cells
      clear hI1
      go_wp2_with fail
      refine (P2.out _).mono ?_
      rintro e w2 ⟨rfl, hB2⟩
      have HB2 := Lib.hid (HB1.out.trans (hB2.mono HB1.out.size))
      clear hB2 i0 i1 j0 j1
      go_wp2_with fail
      refine (LV.out _ HB2.out).mono ?_
      rintro e w3 ⟨rfl, hB⟩
      go_wp2
      go_ret
      exact ⟨rfl, HB2.out.trans (hB.mono HB2.out.size)⟩
    | true =>
      have hrd := hrd rfl
      rw [hrd] at EX
      unfold TellExt at EX
      simp only [strOf_bsOf] at EX
      have EX := Lib.hid EX
      clear hno hrd hp hs
      have hcv := fun V => Lib.run_convert_string_bytes (P := Tryd.prog) V 9 22 5 T Tryd.underlying9 Tryd.underlying22 Tryd.underlying5
      obtain ⟨i0, i1, j0, j1⟩ := HIB.out.cells
      go_enter Tryd.func4, Tryd.ntmps4
      go_wp2_with fail
      rw [← HW.out]
      refine (P1.out _ HBW.out).mono ?_
      rintro e w1 ⟨rfl, hB1⟩
      have HB1 := Lib.hid (HBW.out.trans (hB1.mono HBW.out.size))
      have hI1 := HIB.out.below hB1
      clear hB1 i0 i1 j0 j1
      obtain ⟨i0, i1, j0, j1⟩ := hI1.cells
      go_wp2_with fail
      refine (P2.out _).mono ?_
      rintro e w2 ⟨rfl, hB2⟩
      have HB2 := Lib.hid (HB1.out.trans (hB2.mono HB1.out.size))
      have hI2 := hI1.below hB2
      clear hB2 i0 i1 j0 j1 hI1
      obtain ⟨i0, i1, j0, j1⟩ := hI2.cells
      go_wp2_with fail
      refine (EX.out _ HB2.out).mono ?_
      rintro e w3 ⟨rfl, hB3⟩
      have hC3 := (bytesWorld_below w2 T).trans (hB3.mono (bytesWorld_below w2 T).size)
      have hI3 := hI2.below hC3
      have hl3 : w.heap.size < w3.heap.size := (Array.getElem?_eq_some_iff.1 hI3).1
      have g0 : ¬ w.heap.size = w3.heap.size := by omega
      have g1 : ¬ w3.heap.size = w.heap.size := by omega
      obtain ⟨U, hU⟩ : ∃ U, U = w3.alloc (.cells #[.string pub, .string sys] 25) := ⟨_, rfl⟩
      have hBU : Below w3.heap.size w3 U := by rw [hU]; exact (Below.refl _ _).alloc (Nat.le_refl _) _
      have hK : IdBlk w3.heap.size pub sys U := by unfold IdBlk; rw [hU, World.alloc]; simp
      have hI4 := hI3.below hBU
      have HB4 := Lib.hid (HB2.out.trans ((hC3.trans (hBU.mono hC3.size)).mono HB2.out.size))
      have HU := Lib.hid hU
      clear i0 i1 j0 j1
      obtain ⟨i0, i1, j0, j1⟩ := hI4.cells
      obtain ⟨k0, k1, l0, l1⟩ := hK.cells
      clear hB3 hC3 hI2 hI3 hBU hI4 hK hU hl3
      have L := Lib.hid (LV.out U HB4.out)
      go_upto_region 8 with (fail)
      rw [← HU.out]
      go_wp2_with fail
      refine L.out.mono ?_
      rintro e w5 ⟨rfl, hB⟩
      go_wp2
      go_ret
      exact ⟨rfl, HB4.out.trans (hB.mono HB4.out.size)⟩
end Go.Proofs.YtbklopnpehafpaaDoor
/- A parameter that is an external identifier, as the walks read it. -/
namespace Go.Proofs.YtbklopnpehafpaaDoor
open Go.RowKit Go.ChangeShapes Go.Deep Go.Joins Go.WideShapes
theorem Tryd.cellsId : Tryd.prog.cellsOf 25 = 2 := by kernel_rfl
theorem Tryd.cellsStrI : Tryd.prog.cellsOf 9 = 1 := by kernel_rfl
set_option maxRecDepth 100000 in
theorem id_arg {H : Type} {enc : TypeId × Value → H} {w : World} {base : Nat} {sp : Nat → Bool} {held : Bool} {r : Reach} {b0 : Nat} {v : Value} {d : DataW H} {ps : List MemPlace}
    (hval : Value.okWide Tryd.prog w r b0 25 v) (hd : DataW.Trod enc Tryd.prog w base sp held 25 v d ps) :
    ∃ (a b : ByteArray), v = .agg #[.string a, .string b] := by
  obtain ⟨cs, rfl, hsz⟩ := okWide_struct Tryd.underlying25 hval
  obtain ⟨l⟩ := cs
  match l, hsz.trans Tryd.cellsId with
  | [c0, c1], _ =>
    obtain ⟨fuel, hf⟩ := hd
    obtain ⟨xs, n, _, hx, _, hlen, hg⟩ := DataW.trod_struct Tryd.underlying25 hf
    have g0 := hg 0 _ rfl
    have g1 := hg 1 _ rfl
    match xs, hlen with
    | [y0, y1], _ =>
      simp only [Value.cells, List.getElem_toArray, List.getElem_cons_zero, List.getElem_cons_succ, Tryd.cellsStrI, List.drop_zero, List.take_succ_cons, List.take_zero, List.drop_succ_cons] at g0 g1
      obtain ⟨a, h0, _, q0⟩ := DataW.trod_string Tryd.underlying9 g0
      obtain ⟨b, h1, _, q1⟩ := DataW.trod_string Tryd.underlying9 g1
      simp only [List.cons.injEq, and_true] at h0 h1
      subst h0 h1
      exact ⟨a, b, rfl⟩
end Go.Proofs.YtbklopnpehafpaaDoor
