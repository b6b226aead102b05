/- The contract of refs.Each: a range over the iterator with a map of the call's own. Conditions: the tables of chars and of utf hold what the text gives them. -/
import Derived.Test.YtkeclfhhilphpaaDoorRefCut
import Derived.Test.YtkeclfhhilphpaaDoorRefRNames
import Derived.Maps.OwnIn
import Derived.Maps.OwnSet
import Derived.Maps.Views
namespace Go.Proofs.YtkeclfhhilphpaaDoor
open Go.RowKit Go.Shelf Go.Maps Go.Proofs.YtkeclfhhilphpaaDoor.UtfPlain Go.Proofs.YtkeclfhhilphpaaDoor.CharsPlain Go.Proofs.YtkeclfhhilphpaaDoor.NamePlain Go.Proofs.YtkeclfhhilphpaaDoor.RefPlain
attribute [local go_sem] Oper.semAt_some
def nm (l : List RefR) : List ByteArray := l.map fun x => strOfNums x.s
theorem nm_snoc (l : List RefR) (x : RefR) : nm (l ++ [x]) = nm l ++ [strOfNums x.s] := by simp [nm]
def cntT (l : List ByteArray) (x : ByteArray) : Nat := (l.filter fun y => decide (y = x)).length
theorem cntT_same (l : List ByteArray) (x : ByteArray) : cntT (l ++ [x]) x = cntT l x + 1 := by simp [cntT]
theorem cntT_other (l : List ByteArray) (x y : ByteArray) (h : ¬ y = x) : cntT (l ++ [y]) x = cntT l x := by simp [cntT, h]
theorem cntT_le (l : List ByteArray) (x : ByteArray) : cntT l x ≤ l.length := List.length_filter_le _ _
theorem hasT_snoc (l : List ByteArray) (x y : ByteArray) : hasT (l ++ [y]) x = (hasT l x || decide (y = x)) := by simp [hasT]
theorem hasT_fold (l : List ByteArray) (x : ByteArray) : ∀ out, hasT (l.foldl (addN true) out) x = (hasT out x || hasT l x) := by
  induction l with
  | nil => intro out; simp [hasT]
  | cons y l ih =>
    intro out
    rw [List.foldl_cons, ih]
    have e : hasT (y :: l) x = (decide (y = x) || hasT l x) := rfl
    rw [e]
    cases h : hasT out y with
    | true =>
      rw [addN_in h]
      by_cases hyx : y = x
      · subst hyx; rw [h]; simp
      · simp [hyx]
    | false => rw [addN_not h, hasT_snoc, Bool.or_assoc]
theorem hasT_out (l : List ByteArray) (x : ByteArray) : hasT (outN true l) x = hasT l x := by unfold outN; rw [hasT_fold]; rfl
theorem cntT_zero {l : List ByteArray} {x : ByteArray} (h : cntT l x = 0) : hasT l x = false := by
  unfold cntT at h
  have h := List.length_eq_zero_iff.1 h
  unfold hasT
  rw [List.any_eq_false]
  intro y hy hd
  have : y ∈ l.filter fun y => decide (y = x) := List.mem_filter.2 ⟨hy, hd⟩
  rw [h] at this; cases this
theorem cntT_pos {l : List ByteArray} {x : ByteArray} (h : ¬ cntT l x = 0) : hasT l x = true := by
  cases hh : hasT l x with
  | true => rfl
  | false =>
    refine absurd ?_ h
    unfold hasT at hh
    unfold cntT
    rw [List.any_eq_false] at hh
    rw [List.filter_eq_nil_iff.2 (fun y hy => hh y hy)]; rfl
theorem outN_snoc (l : List ByteArray) (x : ByteArray) : outN true (l ++ [x]) = addN true (outN true l) x := by unfold outN; rw [List.foldl_append]; rfl
def KeyT (D : DataW Unit) (l : List ByteArray) : Prop := ∀ y : ByteArray, D.atKey (.string y.data.toList) (.lit (.int .i64 0)) = .lit (.int .i64 (cntT l y))
theorem KeyT_put {D : DataW Unit} {l : List ByteArray} {x : ByteArray} (h : KeyT D l) (hm : IsMap D) : KeyT (D.put (.string x.data.toList) (.lit (.int .i64 ((cntT l x : Int) + 1)))) (l ++ [x]) := by
  intro y
  by_cases hyx : x = y
  · subst hyx; rw [atKey_put_same hm (show WideAt.IsKeyLit (.string x.data.toList) from trivial), cntT_same]; rfl
  · rw [atKey_put_other (fun e => hyx ?_), h y, cntT_other _ _ _ hyx]
    exact (Go.WideShapes.bytes_inj (Lit.string.inj e)).symm
theorem map_below {w w' : World} {P : Program} {k : TypeId} {R : Value → Option (DataW Unit × List MemPlace)} {b n : Nat} {D : DataW Unit} (h : w.ownsMap P k R b n D) (hb : Below w.heap.size w w') : w'.ownsMap P k R b n D := by
  have hlt := h.lt
  obtain ⟨es, clock, h1, r⟩ := h
  exact ⟨es, clock, (hb.block b hlt).trans h1, r⟩
theorem map_putR {w : World} {P : Program} {k : TypeId} {R : Value → Option (DataW Unit × List MemPlace)} {b n l : Nat} {o' : Obj} {D : DataW Unit} (h : w.ownsMap P k R b n D) (hl : b ≠ l) : (w.putObj l o').ownsMap P k R b n D := by
  obtain ⟨es, clock, h1, r⟩ := h
  exact ⟨es, clock, (World.putObj_heap_other hl).trans h1, r⟩
theorem map_len {w : World} {P : Program} {k : TypeId} {R : Value → Option (DataW Unit × List MemPlace)} {b n m : Nat} {D : DataW Unit} (h : w.ownsMap P k R b n D) (hm : n = m) : w.ownsMap P k R b m D := hm ▸ h
theorem map_not_row {w : World} {P : Program} {k : TypeId} {R : Value → Option (DataW Unit × List MemPlace)} {b m base size n : Nat} {D : DataW Unit} {e : TypeId} {v : Value} {xs : List Value} (h : w.ownsMap P k R b m D) (hr : w.ownsRow base e size v n xs) : some b ≠ v.ownBlock := by
  obtain ⟨es, clock, h1, _⟩ := h
  intro e'
  rcases hr.2 with ⟨rfl, _⟩ | ⟨g, cap, cur, rfl, _, hh, _⟩
  · cases e'
  · obtain rfl : b = g := by simpa [Value.ownBlock] using e'
    rw [h1] at hh; cases hh
theorem ext_sz2 (s : ByteArray) (i j : Nat) (h : j ≤ s.size) : (s.extract i j).size = j - i := by rw [ByteArray.size_extract, Nat.min_eq_left h]
theorem litInt {a b : Int} (h : (DataW.lit (.int .i64 a) : DataW Unit) = .lit (.int .i64 b)) : a = b := by cases h; rfl
theorem lawT : Keyed Tryd.prog 9 := string_keyed Tryd.underlying9
theorem zeroT (w : World) : (zeroValue 3).run Tryd.prog w = .ok (.int .i64 0) w := by kernel_rfl
set_option maxRecDepth 100000 in
set_option maxHeartbeats 8000000 in
theorem refOnce_any (s : ByteArray) (w : World) (hlen : s.size ≤ 1048576) (hf : FormsAt w) (ht : Tabs w) :
    Calls Tryd.prog 33 #[.string s] w (TellTs (outN true (namesOf s)) w) := by
  obtain ⟨i0, hi0, hz0, hz1, hz2⟩ := info_parts Tryd.infoStrR
  have hmm := @run_makeMap Tryd.prog
  refine (callsIn_wide (n := 3)).1 ?_
  refine callsIn_of_wp_marks Tryd.func33 rfl trivial ?_ rfl
  simp only [Tryd.ntmps33, List.size_toArray, List.length_cons, List.length_nil, Nat.reduceAdd, Nat.reduceSub, Array.replicate_succ, Array.replicate_zero, List.push_toArray, List.append_toArray, List.nil_append, List.cons_append]
  gi_wp2_with (refine ⟨trivial, ?_⟩; gi_at_call 38; refine (callsIn_wide.2 (each_any _ _)).mono ?_; rintro e w' ⟨rfl, rfl⟩)
  have hr1 := Boxed.new w 46 (.slice none 0 0)
  have hr2 : ((w.alloc (.cells #[.slice none 0 0] 46)).alloc (.map #[] 0)).ownsMap Tryd.prog 9 (plainElem (H := Unit) Tryd.prog 3) (w.heap.size + 1) 0 (.map []) := by
    have := World.ownsMap_made (H := Unit) (w.alloc (.cells #[.slice none 0 0] 46)) Tryd.prog 9 (plainElem (H := Unit) Tryd.prog 3)
    simpa using this
  have hr3 : Boxed (((w.alloc (.cells #[.slice none 0 0] 46)).alloc (.map #[] 0)).alloc (.cells #[.map (some (w.heap.size + 1))] 70)) (w.heap.size + 1 + 1) 70 (.map (some (w.heap.size + 1))) := by
    have := Boxed.new ((w.alloc (.cells #[.slice none 0 0] 46)).alloc (.map #[] 0)) 70 (.map (some (w.heap.size + 1)))
    simpa using this
  have hr4 := Boxed.new (((w.alloc (.cells #[.slice none 0 0] 46)).alloc (.map #[] 0)).alloc (.cells #[.map (some (w.heap.size + 1))] 70)) 9 (.string s)
  simp only [World.size_alloc] at hr4
  have a1 := ((hr1.alloc (.map #[] 0)).alloc (.cells #[.map (some (w.heap.size + 1))] 70)).alloc (.cells #[.string s] 9)
  have a2 := (hr2.alloc (.cells #[.map (some (w.heap.size + 1))] 70)).alloc (.cells #[.string s] 9)
  have a3 := hr3.alloc (.cells #[.string s] 9)
  have hB0 : Below w.heap.size w ((((w.alloc (.cells #[.slice none 0 0] 46)).alloc (.map #[] 0)).alloc (.cells #[.map (some (w.heap.size + 1))] 70)).alloc (.cells #[.string s] 9)) := ((((Below.refl _ w).alloc (Nat.le_refl _) _).alloc (by simp) _).alloc (by simp; omega) _).alloc (by simp; omega) _
  have hsz : ((((w.alloc (.cells #[.slice none 0 0] 46)).alloc (.map #[] 0)).alloc (.cells #[.map (some (w.heap.size + 1))] 70)).alloc (.cells #[.string s] 9)).heap.size = w.heap.size + 4 := by simp
  clear hr1 hr2 hr3
  have hf4 := hf.below hB0 hf.size
  have ht4 := ht.below hB0 ht.size
  have hc4 := hr4.cell
  clear hr4
  generalize ((((w.alloc (.cells #[.slice none 0 0] 46)).alloc (.map #[] 0)).alloc (.cells #[.map (some (w.heap.size + 1))] 70)).alloc (.cells #[.string s] 9)) = W4 at *
  refine range_seq rfl (by omega) (gf := 45) (lb := #[.pointer (some ⟨w.heap.size + 1 + 1 + 1, 0, none⟩)]) rfl trivial (enters_of Tryd.func45 (by kernel_rfl) rfl)
    (encs := refEnc) (Kp := KpR w.heap.size) (refsN (bsOf s)) (fun _ => rfl) KpR.trans (KpR_put (by omega)) ?seq
    (fun pre W => ∃ (v : Value) (D : DataW Unit), Boxed W w.heap.size 46 v ∧ W.ownsRow w.heap.size 9 1 v (outN true (nm pre)).length (txtCells (outN true (nm pre))) ∧ Boxed W (w.heap.size + 1 + 1) 70 (.map (some (w.heap.size + 1))) ∧ W.ownsMap Tryd.prog 9 (plainElem (H := Unit) Tryd.prog 3) (w.heap.size + 1) pre.length D ∧ KeyT D (nm pre) ∧ Below w.heap.size w W)
    ?ib ?ip ⟨_, _, a1, World.ownsRow_nil _ _ _ _, a3, a2, fun _ => rfl, hB0⟩
    (fun x a' W => ∃ b, W.heap[b]? = some (.cells #[.int .i64 x.a, .int .i64 x.b, .string (strOfNums x.s)] 78 (0, 0)) ∧ a' = { tmps := #[.string s, undef, .slice none 0 0, .pointer (some ⟨w.heap.size, 0, none⟩), .pointer (some ⟨w.heap.size + 1 + 1, 0, none⟩), .pointer (some ⟨b, 0, none⟩), .map (some (w.heap.size + 1)), .string s, .func (.func 45) #[] #[.pointer (some ⟨w.heap.size + 1 + 1 + 1, 0, none⟩)], .agg #[.int .i64 x.a, .int .i64 x.b, .string (strOfNums x.s)], undef, undef, undef, undef, undef, undef, undef, undef, undef, undef, undef, undef, undef, undef, undef, undef], defers := [] })
    ?ap ?assign ?body ?done
  case seq =>
    intro l J W hW hJ hY h0
    refine (each1_in (3 - 1) (by omega) l (w.heap.size + 1 + 1 + 1) w.heap.size s (by omega) ⟨hf.size, ht.size.1, ht.size.2.2⟩ J (fun _ _ => False) hJ (fun pre x W1 hp hj _ => ?_) W (Nat.le_trans (by omega) hW.size) ((hW.cell (p := ⟨w.heap.size + 1 + 1 + 1, 0, none⟩) (by show w.heap.size + 1 + 1 + 1 < _; omega)).trans hc4) (hf4.below hW hf4.size) (ht4.below hW ht4.size) h0).mono ?_
    · obtain ⟨fn, tmps, assign, body, hy, hR⟩ := hY pre x W1 hp hj
      exact ⟨fn, tmps, assign, body, hy, hR.mono fun e W' h => .inl h⟩
    · rintro e W' ⟨hv, h⟩
      refine ⟨hv, ?_⟩
      rcases h with ⟨ys, rfl, h⟩ | ⟨_, _, h⟩
      · exact h
      · exact h.elim
  case ib =>
    rintro q A B ⟨v, D, h1, h2, h3, h4, h5, h6⟩ hb
    exact ⟨v, D, boxed_below h1 hb, ownB_below h2 hb, boxed_below h3 hb, map_below h4 hb, h5, h6.trans (hb.mono h6.size)⟩
  case ip =>
    rintro q A l o o' ⟨v, D, h1, h2, h3, h4, h5, h6⟩ hl ho hc
    exact ⟨v, D, boxed_putR h1 ho hc, ownsRow_putObj h2 o' ho hc, boxed_putR h3 ho hc, map_putR h4 (by omega), h5, below_putR h6 h6.size (by omega)⟩
  case ap =>
    rintro x a' A l o o' ⟨b, h2, h3⟩ hl ho hc
    refine ⟨b, (World.putObj_heap_other (fun e => ?_)).trans h2, h3⟩
    subst e
    rw [h2] at ho; cases ho; cases hc
  case assign =>
    intro l pre x W K hI hK
    dsimp only [refEnc]
    gi_wp2
    obtain ⟨v, D, h1, h2, h3, h4, h5, hB⟩ := hI
    exact hK _ _ ((KeepsOthers.alloc W _).from _) (KpR.below ((Below.refl _ W).alloc (Nat.le_refl _) _) hB.size) ⟨v, D, h1.alloc _, h2.alloc _, h3.alloc _, h4.alloc _, h5, hB.alloc hB.size _⟩ ⟨W.heap.size, heap_alloc_new W _, rfl⟩
  case body =>
    rintro l pre x a' W ⟨rest, hrest⟩ ⟨v, D, hv, hrow, h3, hmap, hkt, hB⟩ ⟨b, hb, rfl⟩
    have hch := chain_next s pre rest x (by rw [List.append_cons, hrest]; exact refsN_chain s)
    have hpl : pre.length + 1 ≤ s.size := by
      have h1 := refsN_len (bsOf s)
      rw [← hrest, bsOf_len] at h1
      simp at h1; omega
    have hnl : (strOfNums x.s).size ≤ maxLen := by
      have z := ext_sz2 s x.a x.b hch.2.2.1
      rw [hch.2.2.2, ByteArray.size_append, ByteArray.size_append] at z
      unfold maxLen; omega
    have hol := outN_len true (nm pre)
    have hnm : (nm pre).length = pre.length := by simp [nm]
    have hcl := cntT_le (nm pre) (strOfNums x.s)
    have hat0 := hkt (strOfNums x.s)
    have hkey : keyOf Tryd.prog 9 (.string (strOfNums x.s)) = some (.string (strOfNums x.s).data.toList) := WideMaps.keyOf_string_mk Tryd.underlying9 hnl
    obtain ⟨c, hrun, hat, _⟩ := hmap.lookup_int lawT Tryd.underlying70 Tryd.underlying3 (zeroT _) hkey
    rw [hat0] at hat
    obtain rfl : ((cntT (nm pre) (strOfNums x.s) : Nat) : Int) = c := by injection hat with h1; injection h1
    have hkt2 := KeyT_put (x := strOfNums x.s) hkt hmap.isMap
    have hseen : hasT (outN true (nm pre)) (strOfNums x.s) = hasT (nm pre) (strOfNums x.s) := hasT_out _ _
    have hz0c := @cntT_zero (nm pre) (strOfNums x.s)
    have hz1c := @cntT_pos (nm pre) (strOfNums x.s)
    have hk2 := hkt2 (strOfNums x.s)
    rw [cntT_same] at hk2
    have hon := outN_snoc (nm pre) (strOfNums x.s)
    rw [← nm_snoc] at hkt2 hon
    rw [hnm] at hol hcl
    clear hch hat hat0 hnm
    generalize hcc : cntT (nm pre) (strOfNums x.s) = cn at *
    generalize outN true (nm pre) = out at *
    have hwf : (Lit.int .i64 ((cn : Int) + 1)).wf = true := by
      have h1 := wrap64_wf ((cn : Int) + 1)
      rwa [show wrap64 ((cn : Int) + 1) = (cn : Int) + 1 from by unfold wrap64; omega] at h1
    have HON := Lib.hid hon
    have HSE := Lib.hid hseen
    have HZ0 := Lib.hid hz0c
    have HZ1 := Lib.hid hz1c
    have HK2 := Lib.hid hk2
    have HCC := Lib.hid hcc
    have HKT := Lib.hid hkt2
    clear hon hseen hz0c hz1c hk2 hcc hkt2 hrest hkt hmm
    have c0 := hv.cell
    have c1 := h3.cell
    have hd2 : W.cell? ⟨b, 2, none⟩ = some (.string (strOfNums x.s)) := by rw [Lib.cell_of_heap hb]; rfl
    have hbn := hB.size
    obtain ⟨es0, ck0, hmb, _⟩ := (show ∃ es clock, W.heap[w.heap.size + 1]? = some (.map es clock) ∧ True from by obtain ⟨es, clock, h1, _⟩ := hmap; exact ⟨es, clock, h1, trivial⟩)
    have hmr : ∀ r, some (w.heap.size + 1) = some r → ∃ o : Obj, W.heap[r]? = some o ∧ o.isCells = false := fun r e => by
      injection e with e
      subst e
      exact ⟨.map es0 ck0, hmb, rfl⟩
    have hbne : b ≠ w.heap.size + 1 := fun e => by rw [← e, hb] at hmb; cases hmb
    cases hcn : decide (cn = 0)
    rotate_left 1
    · have HCN := Lib.hid (of_decide_eq_true hcn)
      have t1 : ((cn : Int) + 1 == 1) = true := by have := HCN.out; simp; omega
      clear hcn
      gi_wp2_with (first | (gi_at_mapUpdate; refine wpListIn_mapUpdate_own _ rfl _ _ _ 70 rfl 9 3 lawT Tryd.underlying70 _ (w.heap.size + 1) pre.length _ rfl hmap (by unfold maxLen; omega) _ _ _ rfl rfl hkey _ [] (plainElem_int Tryd.underlying3 hwf) ?_; intro w1 hown1 hgrow1; obtain ⟨c2, hrun1, hat1, _⟩ := hown1.lookup_int lawT Tryd.underlying70 Tryd.underlying3 (zeroT _) hkey; rw [HK2.out] at hat1; have ec2 : (cn : Int) + 1 = c2 := (by have h1 := litInt hat1; omega); rw [← ec2] at hrun1; have g1 := hv.kept hgrow1 (fun e => by injection e with e; omega); have g3 := h3.kept hgrow1 (fun e => by injection e with e; omega); have gr := row_keepR hrow hgrow1 hmr; have gb := (hgrow1.block b (Array.getElem?_eq_some_iff.1 hb).1 (fun e => by injection e with e; omega)).trans hb; have gc := g1.cell; have gc3 := g3.cell; have gd2 : w1.cell? ⟨b, 2, none⟩ = some (.string (strOfNums x.s)) := (by rw [Lib.cell_of_heap gb]; rfl); have HM := Lib.hid hown1; have gsz := hgrow1.size; clear hown1 hat1 ec2) | (gi_at_builtin; refine wpListIn_append_own _ rfl _ _ 46 rfl w.heap.size 9 i0 (.string ⟨#[]⟩) 1 16 Tryd.underlying46 hi0 hz0 hz1 hz2 rfl (by decide) _ _ _ rfl (gr.alloc _) ⟨w1.heap.size, 0, none⟩ 1 1 [.string (strOfNums x.s)] rfl rfl (cell_one_new _ _ _) (by simp [Value.oneCell']) (by unfold maxLen; omega) (by omega) (by simp; omega) ?_; intro v' w2 hown' hgrow _; obtain ⟨g', cap', rfl⟩ := ownsRow_succ hown'; obtain ⟨hq1, hq2, hr2, hk2, hb2⟩ := g1.appended (by decide) gr (Nat.le_trans hB.size gsz) (Nat.le_refl _) hown' hgrow; have hc3 := hq1.cell; have hf3 := hq1.frozen))
      have hkp1 : KpR w.heap.size W w1 := ⟨(Below.refl _ W).grown hgrow1 hB.size (fun g h => by injection h with h; omega), fun i cur t fz hz hi => (hgrow1.block i (Array.getElem?_eq_some_iff.1 hi).1 (fun e => by injection e with e; rw [e, hmb] at hi; cases hi)).trans hi⟩
      have hkf1 : KeepsFrom (w.heap.size + 4) W w1 := KeepsFrom.of_grownBy hgrow1 (fun j e => by injection e with e; omega)
      have hb1 := hB.trans hkp1.1
      have e1 : addN true out (strOfNums x.s) = out ++ [strOfNums x.s] := addN_not (by rw [HSE.out]; exact HZ0.out HCN.out)
      have k3 := ((g3.alloc _).kept hgrow (g3.not_row (by decide) gr)).other (B' := w.heap.size) (by omega) (.slice (some ⟨g', 0, none⟩) (out.length + 1) cap')
      have km := ((HM.out.alloc _).kept hgrow (map_not_row HM.out gr)).setCell (a := ⟨w.heap.size, 0, none⟩) (by show w.heap.size + 1 ≠ w.heap.size; omega) (.slice (some ⟨g', 0, none⟩) (out.length + 1) cap')
      have hn1 : w.heap.size ≤ w1.heap.size := Nat.le_trans hB.size gsz
      have hkp2 := (hkp1.trans (KpR.below ((Below.refl _ w1).alloc (Nat.le_refl _) _) hn1)).trans ((KpR_grow (gr.alloc _) hgrow (Nat.le_refl _) (by simp; omega)).trans (KpR_box (u := .slice (some ⟨g', 0, none⟩) (out.length + 1) cap') hq1 (Nat.le_refl _)))
      refine ⟨hkf1.trans (hk2.from _), hkp2, _, hq2, ?_, k3, _, km, HKT.out, hb1.trans hb2⟩
      rw [HON.out, e1, List.length_append, txtCells_snoc]
      exact hr2
    · have HCN := Lib.hid (of_decide_eq_false hcn)
      have t1 : ((cn : Int) + 1 == 1) = false := by have := HCN.out; simp; omega
      clear hcn
      gi_wp2_with (gi_at_mapUpdate; refine wpListIn_mapUpdate_own _ rfl _ _ _ 70 rfl 9 3 lawT Tryd.underlying70 _ (w.heap.size + 1) pre.length _ rfl hmap (by unfold maxLen; omega) _ _ _ rfl rfl hkey _ [] (plainElem_int Tryd.underlying3 hwf) ?_; intro w1 hown1 hgrow1; obtain ⟨c2, hrun1, hat1, _⟩ := hown1.lookup_int lawT Tryd.underlying70 Tryd.underlying3 (zeroT _) hkey; rw [HK2.out] at hat1; have ec2 : (cn : Int) + 1 = c2 := (by have h1 := litInt hat1; omega); rw [← ec2] at hrun1; have g1 := hv.kept hgrow1 (fun e => by injection e with e; omega); have g3 := h3.kept hgrow1 (fun e => by injection e with e; omega); have gr := row_keepR hrow hgrow1 hmr; have gb := (hgrow1.block b (Array.getElem?_eq_some_iff.1 hb).1 (fun e => by injection e with e; omega)).trans hb; have gc := g1.cell; have gc3 := g3.cell; have gd2 : w1.cell? ⟨b, 2, none⟩ = some (.string (strOfNums x.s)) := (by rw [Lib.cell_of_heap gb]; rfl); have HM := Lib.hid hown1; have gsz := hgrow1.size; clear hown1 hat1 ec2)
      have hkp1 : KpR w.heap.size W w1 := ⟨(Below.refl _ W).grown hgrow1 hB.size (fun g h => by injection h with h; omega), fun i cur t fz hz hi => (hgrow1.block i (Array.getElem?_eq_some_iff.1 hi).1 (fun e => by injection e with e; rw [e, hmb] at hi; cases hi)).trans hi⟩
      have hkf1 : KeepsFrom (w.heap.size + 4) W w1 := KeepsFrom.of_grownBy hgrow1 (fun j e => by injection e with e; omega)
      have hb1 := hB.trans hkp1.1
      have e1 : addN true out (strOfNums x.s) = out := addN_in (by rw [HSE.out]; exact HZ1.out HCN.out)
      refine ⟨hkf1, hkp1, v, g1, ?_, _, HM.out, HKT.out, hb1⟩
      rw [HON.out, e1]
      exact gr
  case done =>
    rintro D W hD ⟨v, D', hv, hrow, h3, hmap, hkt, hB⟩ hK
    have c0 := hv.cell
    have hDn : w.heap.size ≤ D := by omega
    have en : nm (refsN (bsOf s)) = namesOf s := rfl
    rw [en] at hrow
    obtain ⟨A2, c2, rfl⟩ := own_shapeR hrow
    gi_wp2
    refine ⟨by simp, .inl ⟨_, _, rfl, run_takeDeferred hK, ?_⟩⟩
    refine ⟨.slice A2 (outN true (namesOf s)).length c2, ?_, ⟨A2, c2, rfl, TsAt.of_own (ownsRow_putObj hrow _ hK rfl), below_putR hB hB.size hDn⟩⟩
    simp [results, Tryd.f33, go_sem]
end Go.Proofs.YtkeclfhhilphpaaDoor
