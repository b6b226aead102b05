/- The contract of query.Parse: a text as steps, or why not. Conditions: texts of at most 2^20 bytes; the tables of chars and of utf hold what the text gives them. -/
import Derived.Test.YtlifdmehejehjaaDoorQOne
import Derived.Test.YtlifdmehejehjaaDoorQSplit
import Derived.Test.YtlifdmehejehjaaDoorQGive
import Derived.Test.YtlifdmehejehjaaDoorDiffPath
namespace Go.Proofs.YtlifdmehejehjaaDoor
open Go.RowKit Go.Shelf Go.Proofs.YtlifdmehejehjaaDoor.QPlain Go.Proofs.YtlifdmehejehjaaDoor.UtfPlain Go.Proofs.YtlifdmehejehjaaDoor.NamePlain
attribute [local go_sem] Oper.semAt_some
set_option linter.unusedVariables false
set_option linter.unusedSimpArgs false
theorem splitSeq_any (s : ByteArray) (w : World) : Calls Tryd.prog 29 #[.string s, .string ⟨#[47]⟩] w fun e w' => e = .returned (.func (.func 48) #[] #[.pointer (some ⟨w.heap.size + 1, 0, none⟩), .pointer (some ⟨w.heap.size, 0, none⟩), .pointer (some ⟨w.heap.size + 1 + 1, 0, none⟩)]) ∧
    w' = ((w.alloc (.cells #[.string s] 9)).alloc (.cells #[.string ⟨#[47]⟩] 9)).alloc (.cells #[.int .i64 0] 3) := by
  have H : Calls Tryd.prog 42 #[.string s, .string ⟨#[47]⟩, .int .i64 0] w fun e w' => e = .returned (.func (.func 48) #[] #[.pointer (some ⟨w.heap.size + 1, 0, none⟩), .pointer (some ⟨w.heap.size, 0, none⟩), .pointer (some ⟨w.heap.size + 1 + 1, 0, none⟩)]) ∧
      w' = ((w.alloc (.cells #[.string s] 9)).alloc (.cells #[.string ⟨#[47]⟩] 9)).alloc (.cells #[.int .i64 0] 3) := by
    go_enter Tryd.func42, Tryd.ntmps42
    go_wp2
    go_ret
    exact ⟨rfl, rfl⟩
  go_enter Tryd.func29, Tryd.ntmps29
  go_wp2_with fail
  refine H.mono ?_
  rintro e w' ⟨rfl, rfl⟩
  go_wp2
  go_ret
  exact ⟨rfl, rfl⟩
theorem boxed_belowQ {X Y : World} {B : Nat} {t : TypeId} {v : Value} (h : Boxed X B t v) (hb : Below X.heap.size X Y) : Boxed Y B t v := (hb.block B h.lt).trans h
theorem boxed_putQ {X : World} {B l : Nat} {t : TypeId} {v : Value} {o o' : Obj} (h : Boxed X B t v) (hl : X.heap[l]? = some o) (hc : o.isCells = false) : Boxed (X.putObj l o') B t v := by
  refine (World.putObj_heap_other (fun e => ?_)).trans h
  subst e
  rw [show X.heap[B]? = _ from h] at hl; cases hl; cases hc
theorem size_putQ (X : World) (l : Nat) (o' : Obj) : (X.putObj l o').heap.size = X.heap.size := by simp [World.putObj]
theorem below_putQ {n : Nat} {w X : World} {l : Nat} {o' : Obj} (h : Below n w X) (hn : n ≤ X.heap.size) (hl : n ≤ l) : Below n w (X.putObj l o') := h.trans ((Below.refl n X).grown (grownBy_putObj' X l o') hn (fun k e => by cases e; omega))
theorem own_lowerQ {w : World} {base base' : Nat} {e : TypeId} {size : Nat} {v : Value} {n : Nat} {xs : List Value} (h : w.ownsRow base e size v n xs) (hb : base' ≤ base) : w.ownsRow base' e size v n xs := by
  refine ⟨h.1, ?_⟩
  rcases h.2 with h2 | ⟨g, cap, cur, hv, hg, r⟩
  · exact .inl h2
  · exact .inr ⟨g, cap, cur, hv, Nat.le_trans hb hg, r⟩
theorem rowCell3g (w : World) (g : Nat) (hg : g = w.heap.size) (x y z : Value) (t : TypeId) : ∀ j u, [x, y, z][j]? = some u → (w.alloc (.cells #[x, y, z] t)).cell? ((⟨g, 0, none⟩ : Addr).add j) = some u := by subst hg; exact rowCell3 w x y z t
def stsOf (ps : List ByteArray) : List StN := ps.map fun p => (oneN p).1
def RetParse (r : List StN × Int) (w : World) (e : Ending) (w' : World) : Prop := ∃ A c, e = .returned (.tuple #[.slice A r.1.length c, .int .i64 r.2]) ∧ r.1.length ≤ c ∧ c ≤ 9223372036854775807 ∧ w'.ownsRow w.heap.size 35 3 (.slice A r.1.length c) r.1.length (stCells r.1) ∧ Below w.heap.size w w'
theorem partsN_le (s p : ByteArray) (h : p ∈ partsN s 0) : p.size ≤ s.size := by
  unfold partsN at h
  obtain ⟨c, _, rfl⟩ := List.mem_map.1 h
  rw [ByteArray.size_extract]; omega
theorem partsN_len (s : ByteArray) : (partsN s 0).length ≤ s.size + 1 := by
  unfold partsN
  rw [List.length_map]
  have := cutsN_len s.data.toList
  rwa [toListZ] at this
set_option maxRecDepth 100000 in
set_option maxHeartbeats 8000000 in
theorem qparse_any (s : ByteArray) (w : World) (hlen : s.size ≤ 1048576) (hf : FormsAt w) (ht : Tabs w) :
    Calls Tryd.prog 14 #[.string s] w (RetParse (parseN s) w) := by
  obtain ⟨i0, hi0, hz0, hz1, hz2⟩ := info_parts Tryd.infoStep
  refine (callsIn_wide (n := 3)).1 ?_
  refine callsIn_of_wp_marks Tryd.func14 rfl trivial ?_ rfl
  simp only [Tryd.ntmps14, List.size_toArray, List.length_cons, List.length_nil, Nat.reduceAdd, Nat.reduceSub, Array.replicate_succ, Array.replicate_zero, List.push_toArray, List.append_toArray, List.nil_append, List.cons_append]
  gi_wp2_with (refine ⟨trivial, ?_⟩; gi_at_call 29; refine (callsIn_wide.2 (splitSeq_any _ _)).mono ?_; rintro e w' ⟨rfl, rfl⟩)
  obtain ⟨W6, hW6⟩ : ∃ W6, W6 = ((((((w.alloc (.cells #[.slice none 0 0] 27)).alloc (.cells #[.int .i64 0] 42)).alloc (.cells #[.slice none 0 0] 27)).alloc (.cells #[.string s] 9)).alloc (.cells #[.string ⟨#[47]⟩] 9)).alloc (.cells #[.int .i64 0] 3)) := ⟨_, rfl⟩
  have q0 : Boxed W6 w.heap.size 27 (.slice none 0 0) := by rw [hW6]; exact (((((Boxed.new w _ _).alloc _).alloc _).alloc _).alloc _).alloc _
  have q1 : Boxed W6 (w.heap.size + 1) 42 (.int .i64 0) := by
    rw [hW6]
    refine ((((?_ : Boxed _ _ _ _).alloc _).alloc _).alloc _).alloc _
    have := Boxed.new (w.alloc (.cells #[.slice none 0 0] 27)) 42 (.int .i64 0)
    simpa using this
  have q2 : Boxed W6 (w.heap.size + 1 + 1) 27 (.slice none 0 0) := by
    rw [hW6]
    refine (((?_ : Boxed _ _ _ _).alloc _).alloc _).alloc _
    have := Boxed.new ((w.alloc (.cells #[.slice none 0 0] 27)).alloc (.cells #[.int .i64 0] 42)) 27 (.slice none 0 0)
    simpa using this
  have q3 : Boxed W6 (w.heap.size + 1 + 1 + 1) 9 (.string s) := by
    rw [hW6]
    refine ((?_ : Boxed _ _ _ _).alloc _).alloc _
    have := Boxed.new (((w.alloc (.cells #[.slice none 0 0] 27)).alloc (.cells #[.int .i64 0] 42)).alloc (.cells #[.slice none 0 0] 27)) 9 (.string s)
    simpa using this
  have q4 : Boxed W6 (w.heap.size + 1 + 1 + 1 + 1) 9 (.string ⟨#[47]⟩) := by
    rw [hW6]
    refine (?_ : Boxed _ _ _ _).alloc _
    have := Boxed.new ((((w.alloc (.cells #[.slice none 0 0] 27)).alloc (.cells #[.int .i64 0] 42)).alloc (.cells #[.slice none 0 0] 27)).alloc (.cells #[.string s] 9)) 9 (.string ⟨#[47]⟩)
    simpa using this
  have q5 : Boxed W6 (w.heap.size + 1 + 1 + 1 + 1 + 1) 3 (.int .i64 0) := by
    rw [hW6]
    have := Boxed.new (((((w.alloc (.cells #[.slice none 0 0] 27)).alloc (.cells #[.int .i64 0] 42)).alloc (.cells #[.slice none 0 0] 27)).alloc (.cells #[.string s] 9)).alloc (.cells #[.string ⟨#[47]⟩] 9)) 3 (.int .i64 0)
    simpa using this
  have hB0 : Below w.heap.size w W6 := by rw [hW6]; exact ((((((Below.refl _ w).alloc (Nat.le_refl _) _).alloc (by simp) _).alloc (by simp; omega) _).alloc (by simp; omega) _).alloc (by simp; omega) _).alloc (by simp; omega) _
  have hsz : w.heap.size + 6 = W6.heap.size := by rw [hW6]; simp
  rw [← hW6]
  clear hW6
  have hf6 := hf.below hB0 hf.size
  have ht6 := ht.below hB0 ht.size
  refine range_seqR rfl (by omega) (gf := 48) (lb := #[.pointer (some ⟨w.heap.size + 1 + 1 + 1 + 1, 0, none⟩), .pointer (some ⟨w.heap.size + 1 + 1 + 1, 0, none⟩), .pointer (some ⟨w.heap.size + 1 + 1 + 1 + 1 + 1, 0, none⟩)]) rfl trivial (enters_of Tryd.func48 (by kernel_rfl) rfl)
    (encs := fun x : ByteArray => #[.string x]) (Kp := KpS (w.heap.size + 1 + 1 + 1 + 1) (w.heap.size + 1 + 1 + 1) (w.heap.size + 1 + 1 + 1 + 1 + 1)) (partsN s 0) (fun _ => rfl) (w.heap.size + 1 + 1 + 1) (by omega) KpS.trans (KpS.put (by omega) (by omega) (by omega)) ?seq
    (fun pre W => (∃ v, Boxed W (w.heap.size + 1 + 1) 27 v ∧ W.ownsRow (w.heap.size + 6) 35 3 v pre.length (stCells (stsOf pre))) ∧ Boxed W w.heap.size 27 (.slice none 0 0) ∧ Boxed W (w.heap.size + 1) 42 (.int .i64 0) ∧ w.heap.size + 6 ≤ W.heap.size ∧ Below w.heap.size w W ∧ ∀ p ∈ pre, (oneN p).2 = true)
    ?ib ?is ?ip ⟨⟨_, q2, World.ownsRow_nil _ _ _ _⟩, q0, q1, by omega, hB0, by simp⟩
    (fun pre W => Boxed W w.heap.size 27 (.slice none 0 0) ∧ Boxed W (w.heap.size + 1) 42 (.int .i64 7) ∧ w.heap.size + 6 ≤ W.heap.size ∧ Below w.heap.size w W ∧ stepsN (partsN s 0) = none)
    ?xp
    (fun x a' W => a' = { tmps := #[.string s, undef, .pointer (some ⟨w.heap.size, 0, none⟩), .pointer (some ⟨w.heap.size + 1, 0, none⟩), .pointer (some ⟨w.heap.size + 1 + 1, 0, none⟩), .string x, undef, undef, .string s, .func (.func 48) #[] #[.pointer (some ⟨w.heap.size + 1 + 1 + 1 + 1, 0, none⟩), .pointer (some ⟨w.heap.size + 1 + 1 + 1, 0, none⟩), .pointer (some ⟨w.heap.size + 1 + 1 + 1 + 1 + 1, 0, none⟩)], .string x, undef, undef, undef, undef, undef, undef, undef, undef, undef, undef, undef, undef, undef, undef, undef], defers := [] })
    ?ap ?assign ?body ?done ?stop
  case seq =>
    intro l J Jx W hW hJb hJs hY h0
    exact split1_in (3 - 1) (by omega) l _ _ _ (by omega) (by omega) s hlen J Jx hJs hY W (boxed_belowQ q4 hW) (boxed_belowQ q3 hW) (boxed_belowQ q5 hW) h0
  case ib =>
    rintro q A B ⟨⟨v, h1, h2⟩, h3, h4, h5, h6, h7⟩ hb
    exact ⟨⟨v, boxed_belowQ h1 hb, ownRow_below h2 hb⟩, boxed_belowQ h3 hb, boxed_belowQ h4 hb, Nat.le_trans h5 hb.size, h6.trans (hb.mono (by omega)), h7⟩
  case is =>
    rintro q A u ⟨⟨v, h1, h2⟩, h3, h4, h5, h6, h7⟩
    refine ⟨⟨v, h1.other (by omega) _, h2.kept (grownBy_setAny A _ u) (.inr (fun e => ?_))⟩, h3.other (by omega) _, h4.other (by omega) _, by simpa using h5, h6.setCell (p := ⟨w.heap.size + 1 + 1 + 1, 0, none⟩) (by show w.heap.size ≤ w.heap.size + 1 + 1 + 1; omega) _, h7⟩
    have := (h2.lt (w.heap.size + 1 + 1 + 1) e).1
    omega
  case ip =>
    rintro q A l o o' ⟨⟨v, h1, h2⟩, h3, h4, h5, h6, h7⟩ hl ho hc
    exact ⟨⟨v, boxed_putQ h1 ho hc, ownsRow_putObj h2 o' ho hc⟩, boxed_putQ h3 ho hc, boxed_putQ h4 ho hc, by rw [size_putQ]; exact h5, below_putQ h6 h6.size (by omega), h7⟩
  case xp =>
    rintro q A l o o' ⟨h3, h4, h5, h6, h7⟩ hl ho hc
    exact ⟨boxed_putQ h3 ho hc, boxed_putQ h4 ho hc, by rw [size_putQ]; exact h5, below_putQ h6 h6.size (by omega), h7⟩
  case ap =>
    rintro x a' A l o o' rfl hl ho hc
    rfl
  case assign =>
    intro l pre x W K hI hK
    gi_wp2
    refine hK _ _ (KeepsFrom.refl _ _) ⟨rfl, rfl, rfl⟩ hI rfl
  case body =>
    rintro l pre x a' W hpre ⟨⟨v, hv, hrow⟩, h3, h4, h5, hB, hok⟩ rfl
    have hx : x.size ≤ 1099511627776 := Nat.le_trans (partsN_le s x (hpre.subset (by simp))) (by omega)
    have C := qone_any x W hx (hf.below hB hf.size) (ht.below hB ht.size)
    obtain ⟨r, hr⟩ : ∃ r, r = oneN x := ⟨_, rfl⟩
    rw [← hr] at C
    obtain ⟨st, ok⟩ := r
    have C := Lib.hid C
    have HR := Lib.hid hr
    have HP := Lib.hid hpre
    have HK := Lib.hid hok
    have HZ := Lib.hid hsz
    clear hr hpre hok hsz hf ht hf6 ht6 hx
    cases ok
    · gi_wp2_with fail
      refine ⟨trivial, ?_⟩
      refine (CallsIn.inRound _ (callsIn_wide.2 C.out)).mono ?_
      rintro e w1 ⟨rfl, hB1⟩
      have k3 := boxed_belowQ h3 hB1
      have k4 := boxed_belowQ h4 hB1
      have u3 := k3.alloc (.cells #[.bool st.any, .bool st.deep, .string st.nm] 35)
      have u4 := k4.alloc (.cells #[.bool st.any, .bool st.deep, .string st.nm] 35)
      have v3 := u3.set (.slice none 0 0)
      have v4 := u4.other (B' := w.heap.size) (by omega) (.slice none 0 0)
      have c3 := u3.cell
      have f3 := u3.frozen
      have c4 := v4.cell
      have f4 := v4.frozen
      have z1 := hB1.size
      have hno : stepsN (partsN s 0) = none := by
        obtain ⟨rest, hrest⟩ := HP.out
        rw [← hrest, List.append_assoc]
        exact stepsN_bad pre HK.out x (by rw [← HR.out]) rest
      have HN := Lib.hid hno
      have kB : KeepsFrom W6.heap.size W w1 := ⟨hB1.size, fun k o _ hk _ => (hB1.block k (Array.getElem?_eq_some_iff.1 hk).1).trans hk⟩
      have KB := Lib.hid kB
      have BB := Lib.hid (hB.trans (hB1.mono hB.size))
      have W3 := Lib.hid (v3.other (B' := w.heap.size + 1) (by omega) (.int .i64 7))
      have W4 := Lib.hid (v4.set (.int .i64 7))
      clear hno kB
      unfold stV
      gi_wp2
      refine ⟨(KB.out.trans ((KeepsOthers.alloc _ _).from _)).trans (((KeepsOthers.setCell _ _ _).from _).trans ((KeepsOthers.setCell _ _ _).from _)), W3.out, W4.out, by omega, ((BB.out.alloc BB.out.size _).setCell (p := ⟨w.heap.size, 0, none⟩) (by simp) _).setCell (p := ⟨w.heap.size + 1, 0, none⟩) (by simp) _, HN.out⟩
    · have hpl : pre.length + 1 ≤ s.size + 1 := by
        have h1 := partsN_len s
        have h2 := HP.out.length_le
        rw [List.length_append] at h2
        simp at h2; omega
      have hst : Hid (stCells (stsOf (pre ++ [x])) = stCells (stsOf pre) ++ [.bool st.any, .bool st.deep, .string st.nm]) := by
        show _ = _
        have : stsOf (pre ++ [x]) = stsOf pre ++ [st] := by unfold stsOf; rw [List.map_append, List.map_cons, List.map_nil, ← HR.out]
        rw [this, stCells_append]; rfl
      have hok2 : Hid (∀ p ∈ pre ++ [x], (oneN p).2 = true) := by
        intro p hp
        rcases List.mem_append.1 hp with hp | hp
        · exact HK.out p hp
        · obtain rfl := List.mem_singleton.1 hp
          rw [← HR.out]
      gi_wp2_with fail
      refine ⟨trivial, ?_⟩
      refine (CallsIn.inRound _ (callsIn_wide.2 C.out)).mono ?_
      rintro e w1 ⟨rfl, hB1⟩
      have u2 := (boxed_belowQ hv hB1).alloc (.cells #[.bool st.any, .bool st.deep, .string st.nm] 35)
      have u0 := (boxed_belowQ h3 hB1).alloc (.cells #[.bool st.any, .bool st.deep, .string st.nm] 35)
      have u1 := (boxed_belowQ h4 hB1).alloc (.cells #[.bool st.any, .bool st.deep, .string st.nm] 35)
      have ur := (ownRow_below hrow hB1).alloc (.cells #[.bool st.any, .bool st.deep, .string st.nm] 35)
      have c2 := u2.cell
      have z1 := hB1.size
      have kB : KeepsFrom W6.heap.size W w1 := ⟨hB1.size, fun k o _ hk _ => (hB1.block k (Array.getElem?_eq_some_iff.1 hk).1).trans hk⟩
      have KB := Lib.hid kB
      have BB := Lib.hid (hB.trans (hB1.mono hB.size))
      have B1 := Lib.hid hB1
      have N3 := Lib.hid (rowCell3g (w1.alloc (.cells #[.bool st.any, .bool st.deep, .string st.nm] 35)) (w1.heap.size + 1) (by simp) (.bool st.any) (.bool st.deep) (.string st.nm) 35)
      clear kB hB1
      unfold stV
      gi_wp2_with (gi_at_builtin; refine wpListIn_append_own _ rfl _ _ 27 rfl (w.heap.size + 6) 35 i0 (.agg #[.bool false, .bool false, .string ⟨#[]⟩]) 3 24 Tryd.underlying27 hi0 hz0 hz1 hz2 rfl (by decide) _ _ _ rfl (ur.alloc _) ⟨w1.heap.size + 1, 0, none⟩ 1 1 [.bool st.any, .bool st.deep, .string st.nm] rfl rfl N3.out (by intro u hu; simp at hu; rcases hu with rfl | rfl | rfl <;> rfl) (by unfold maxLen; omega) (by omega) (by simp; omega) ?_; intro v' w2 hown' hgrow _; obtain ⟨A', c', rfl⟩ := own_shapeQ hown'; have y2 := (u2.alloc _).kept hgrow (u2.not_row (by decide) ur); have GR := Lib.hid hgrow; have OW := Lib.hid hown'; clear hgrow hown'; have y2c := y2.cell; have y2f := y2.frozen)
      obtain ⟨_, hq2, _, hk2, hb2⟩ := Boxed.appended (n₀ := w.heap.size) u2 (by decide) (own_lowerQ ur (by omega)) (by simp; omega) (by omega) (own_lowerQ OW.out (by omega)) GR.out
      have hbl : ∀ k, k < w.heap.size + 6 → k ≠ w.heap.size + 1 + 1 → (w2.setCell ⟨w.heap.size + 1 + 1, 0, none⟩ (.slice A' (pre.length + 1) c')).heap[k]? = W.heap[k]? := by
        intro k hk hne
        rw [Below.heap_setCell _ _ _ _ (by exact hne)]
        rw [GR.out.block k (by simp; omega) (fun e => by have := (ur.lt k e.symm).1; omega)]
        rw [((Below.refl _ (w1.alloc (.cells #[.bool st.any, .bool st.deep, .string st.nm] 35))).alloc (Nat.le_refl _) _).block k (by simp; omega), ((Below.refl _ w1).alloc (Nat.le_refl _) _).block k (by omega)]
        exact B1.out.block k (by omega)
      have hgz := GR.out.size
      simp only [World.size_alloc] at hgz
      refine ⟨(KB.out.trans ((KeepsOthers.alloc _ _).from _)).trans (hk2.from _), ⟨hbl _ (by omega) (by omega), hbl _ (by omega) (by omega), hbl _ (by omega) (by omega)⟩, ⟨_, hq2, ?_⟩, (hbl _ (by omega) (by omega)).trans h3, (hbl _ (by omega) (by omega)).trans h4, by omega, (BB.out.alloc BB.out.size _).trans (hb2.mono (by simp)), ?_⟩
      · rw [hst.out]
        exact OW.out.kept (grownBy_setAny _ _ _) (.inr (y2.not_row (by decide) OW.out).symm)
      · have := hok2.out; simpa using this
  case done =>
    rintro D W hD ⟨⟨v, hv, hrow⟩, h3, h4, h5, hB, hok⟩ hK
    obtain ⟨A, c, rfl⟩ := own_shapeQ hrow
    have hcap := own_capQ hrow
    have hsl : (stsOf (partsN s 0)).length = (partsN s 0).length := by simp [stsOf]
    have hpn : parseN s = if 64 < (partsN s 0).length then ([], 13) else (stsOf (partsN s 0), 0) := by
      unfold parseN
      rw [stepsN_all _ hok]
      show (if 64 < (stsOf (partsN s 0)).length then _ else _) = _
      rw [hsl]; rfl
    have hpl := partsN_len s
    have HPN := Lib.hid hpn
    have HSL := Lib.hid hsl
    generalize hps : partsN s 0 = ps at *
    have HZ := Lib.hid hsz
    clear hpn hsl hok hps hsz
    have c2 := hv.cell
    by_cases h64 : 64 < ps.length
    · have t0 : (64 : Int) < (ps.length : Int) := by omega
      have c3 := h3.cell
      have f3 := h3.frozen
      have k4 := h4.other (B' := w.heap.size) (by omega) (.slice none 0 0)
      have c4 := k4.cell
      have f4 := k4.frozen
      have K3 := Lib.hid ((h3.set (.slice none 0 0)).other (B' := w.heap.size + 1) (by omega) (.int .i64 13))
      have K4 := Lib.hid (k4.set (.int .i64 13))
      have HD : Hid (((W.setCell ⟨w.heap.size, 0, none⟩ (.slice none 0 0)).setCell ⟨w.heap.size + 1, 0, none⟩ (.int .i64 13)).heap[D]? = some (.deferred (some []))) := by
        show _ = _
        rw [Below.heap_setCell _ _ _ _ (by have := HZ.out; show D ≠ w.heap.size + 1; omega), Below.heap_setCell _ _ _ _ (by have := HZ.out; show D ≠ w.heap.size; omega)]; exact hK
      have BB := Lib.hid ((hB.setCell (p := ⟨w.heap.size, 0, none⟩) (by simp) (.slice none 0 0)).setCell (p := ⟨w.heap.size + 1, 0, none⟩) (by simp) (.int .i64 13))
      clear hK k4 h3 h4
      gi_wp2
      refine ⟨by simp, .inl ⟨_, _, rfl, run_takeDeferred HD.out, ?_⟩⟩
      have r3 := (boxed_putQ (o' := .deferred none) K3.out HD.out rfl).cell
      have r4 := (boxed_putQ (o' := .deferred none) K4.out HD.out rfl).cell
      refine ⟨.tuple #[.slice none 0 0, .int .i64 13], by simp [results, Tryd.f14, Tryd.results14, go_sem, r3, r4], ?_⟩
      rw [HPN.out, if_pos h64]
      exact ⟨none, 0, rfl, Nat.le_refl _, by omega, World.ownsRow_nil _ _ _ _, below_putQ BB.out BB.out.size (by have := HZ.out; omega)⟩
    · have t0 : ¬ (64 : Int) < (ps.length : Int) := by omega
      have c3 := h3.cell
      have f3 := h3.frozen
      have k4 := h4.other (B' := w.heap.size) (by omega) (.slice A ps.length c)
      have c4 := k4.cell
      have f4 := k4.frozen
      have K3 := Lib.hid ((h3.set (.slice A ps.length c)).other (B' := w.heap.size + 1) (by omega) (.int .i64 0))
      have K4 := Lib.hid (k4.set (.int .i64 0))
      have HD : Hid (((W.setCell ⟨w.heap.size, 0, none⟩ (.slice A ps.length c)).setCell ⟨w.heap.size + 1, 0, none⟩ (.int .i64 0)).heap[D]? = some (.deferred (some []))) := by
        show _ = _
        rw [Below.heap_setCell _ _ _ _ (by have := HZ.out; show D ≠ w.heap.size + 1; omega), Below.heap_setCell _ _ _ _ (by have := HZ.out; show D ≠ w.heap.size; omega)]; exact hK
      have BB := Lib.hid ((hB.setCell (p := ⟨w.heap.size, 0, none⟩) (by simp) (.slice A ps.length c)).setCell (p := ⟨w.heap.size + 1, 0, none⟩) (by simp) (.int .i64 0))
      have RW := Lib.hid (((own_lowerQ hrow (base' := w.heap.size) (by omega)).kept (grownBy_setAny W ⟨w.heap.size, 0, none⟩ (.slice A ps.length c)) (.inr (h3.not_row (by decide) hrow).symm)).kept (grownBy_setAny _ ⟨w.heap.size + 1, 0, none⟩ (.int .i64 0)) (.inr (h4.not_row (by decide) hrow).symm))
      clear hK k4 h3 h4 hrow
      gi_wp2
      refine ⟨by simp, .inl ⟨_, _, rfl, run_takeDeferred HD.out, ?_⟩⟩
      have r3 := (boxed_putQ (o' := .deferred none) K3.out HD.out rfl).cell
      have r4 := (boxed_putQ (o' := .deferred none) K4.out HD.out rfl).cell
      refine ⟨.tuple #[.slice A ps.length c, .int .i64 0], by simp [results, Tryd.f14, Tryd.results14, go_sem, r3, r4], ?_⟩
      have RW2 := ownsRow_putObj RW.out (.deferred none) HD.out rfl
      have e1 : (stsOf ps).length = ps.length := HSL.out
      rw [HPN.out, if_neg h64]
      refine ⟨A, c, by rw [e1], by rw [e1]; exact hcap.1, hcap.2, ?_, below_putQ BB.out BB.out.size (by have := HZ.out; omega)⟩
      show World.ownsRow _ _ _ _ (.slice A (stsOf ps).length c) (stsOf ps).length _
      rw [e1]
      exact RW2
  case stop =>
    rintro D pre W hD hpre ⟨h3, h4, h5, hB, hno⟩ hK
    have hpn : Hid (parseN s = ([], 7)) := by
      show _ = _
      unfold parseN
      rw [hno]
    have HD := Lib.hid hK
    have K3 := Lib.hid h3
    have K4 := Lib.hid h4
    clear hK hno
    gi_wp2
    refine ⟨by simp, .inl ⟨_, _, rfl, run_takeDeferred HD.out, ?_⟩⟩
    have r3 := (boxed_putQ (o' := .deferred none) K3.out HD.out rfl).cell
    have r4 := (boxed_putQ (o' := .deferred none) K4.out HD.out rfl).cell
    refine ⟨.tuple #[.slice none 0 0, .int .i64 7], by simp [results, Tryd.f14, Tryd.results14, go_sem, r3, r4], ?_⟩
    rw [hpn.out]
    exact ⟨none, 0, rfl, Nat.le_refl _, by omega, World.ownsRow_nil _ _ _ _, below_putQ hB hB.size (by omega)⟩
end Go.Proofs.YtlifdmehejehjaaDoor
