/- The contracts of oracle.tell and of oracle.Agree, at scripts that tell the same. Conditions: at most 2^20 answers, patterns, bytes of each; internal/bytealg.MaxLen holds an int. -/
import Derived.Test.YtkpefendeonemaaDoorOrOnly
import Derived.Test.YtkpefendeonemaaDoorShelf
import Derived.Maps.Range
import Derived.Maps.RangeWalk
import Derived.Maps.OwnSet
namespace Go.Proofs.YtkpefendeonemaaDoor
open Go.RowKit Go.Maps Go.Proofs.YtkpefendeonemaaDoor.UriPlain
set_option linter.unusedVariables false
set_option linter.unusedSimpArgs false
def heldV (v : Value) : Option (DataW Value × List MemPlace) := some (.held v, [])
def anV (y : An) : Value := .agg #[.string y.id, .bool y.ok, .slice y.D y.n y.c]
def AnMap (D : DataW Value) (ys : List An) : Prop := ∀ (k : ByteArray) (zd : DataW Value), D.atKey (.string k.data.toList) zd = match ys.find? (fun y => decide (y.id = k)) with | some y => .held (anV y) | none => zd
theorem AnMap_nil : AnMap (.map []) [] := fun k zd => rfl
theorem AnMap_put {D : DataW Value} {ys : List An} {y : An} (h : AnMap D ys) (hm : IsMap D) (hn : ∀ z ∈ ys, ¬ z.id = y.id) : AnMap (D.put (.string y.id.data.toList) (.held (anV y))) (ys ++ [y]) := by
  intro k zd
  rw [List.find?_append]
  by_cases hk : y.id = k
  · subst hk
    rw [atKey_put_same hm (show WideAt.IsKeyLit (.string y.id.data.toList) from trivial), List.find?_eq_none.2 (fun z hz => by simpa using hn z hz)]
    simp
  · rw [atKey_put_other (fun e => hk ?_), h k zd]
    · cases ys.find? (fun y => decide (y.id = k)) with
      | some z => simp
      | none => simp [hk]
    · exact (Go.WideShapes.bytes_inj (Lit.string.inj e)).symm
theorem size_put {H : Type} {D : DataW H} {k : Lit} {d : DataW H} (hm : IsMap D) (hn : Maps.has D k = false) : Maps.size (D.put k d) = Maps.size D + 1 := by
  obtain ⟨es, rfl⟩ := hm
  rw [DataW.put_eq, size_eq, size_eq]
  unfold ChangeMaps.putKey
  rw [length_insert, List.filter_eq_self.2 (fun p hp => ?_)]
  rw [has_eq, List.any_eq_false] at hn
  unfold ChangeMaps.notKey
  simpa using hn p hp
theorem AnMap_has {D : DataW Value} {ys : List An} {k : ByteArray} (h : AnMap D ys) (hn : ∀ z ∈ ys, ¬ z.id = k) : Maps.has D (.string k.data.toList) = false :=
  has_false_of_atKey fun zd => by rw [h k zd, List.find?_eq_none.2 (fun z hz => by simpa using hn z hz)]
/-- No two of what a script tells have one name. -/
def DistA (l : List AnP) : Prop := l.Pairwise (fun a b => a.id ≠ b.id)
theorem putA_dist (l : List AnP) : DistA (putA l) := by
  refine rec_snoc (p := fun l => DistA (putA l)) List.Pairwise.nil (fun l a ih => ?_) l
  show DistA (putA (l ++ [a]))
  rw [putA_snoc]
  unfold stepA
  split
  · rename_i h
    exact List.pairwise_append.2 ⟨ih, List.pairwise_singleton _ _, fun x hx y hy => by simp at hy; subst hy; exact h.2 x hx⟩
  · exact ih
theorem dist_new {ys : List An} (h : DistA (ys.map An.pl)) {k : Nat} {y : An} (hy : ys[k]? = some y) : ∀ z ∈ ys.take k, ¬ z.id = y.id := by
  intro z hz e
  obtain ⟨i, hi⟩ := List.mem_iff_getElem?.1 hz
  rw [List.getElem?_take] at hi
  split at hi
  · rename_i hik
    have hk := (List.getElem?_eq_some_iff.1 hy)
    have hii := (List.getElem?_eq_some_iff.1 hi)
    unfold DistA at h
    rw [List.pairwise_map, List.pairwise_iff_getElem] at h
    have := h i k hii.1 hk.1 hik
    rw [hii.2, hk.2] at this
    exact this e
  · cases hi
theorem dist_find {ys : List An} (h : DistA (ys.map An.pl)) {y : An} (hy : y ∈ ys) : ys.find? (fun z => decide (z.id = y.id)) = some y := by
  obtain ⟨k, hk, rfl⟩ := List.getElem_of_mem hy
  rw [List.find?_eq_some_iff_getElem]
  refine ⟨by simp, k, hk, rfl, fun j hj => ?_⟩
  have := dist_new h (List.getElem?_eq_getElem hk) ys[j] (List.mem_iff_getElem?.2 ⟨j, by rw [List.getElem?_take, if_pos hj]; exact List.getElem?_eq_getElem (by omega)⟩)
  simpa using this
/-- The one of the other script. -/
theorem same_find {ys zs : List An} (h : ys.map An.pl = zs.map An.pl) (hd : DistA (ys.map An.pl)) {y : An} (hy : y ∈ ys) : ∃ z, z ∈ zs ∧ zs.find? (fun x => decide (x.id = y.id)) = some z ∧ z.pl = y.pl := by
  have h1 : y.pl ∈ zs.map An.pl := by rw [← h]; exact List.mem_map.2 ⟨y, hy, rfl⟩
  obtain ⟨z, hz, e⟩ := List.mem_map.1 h1
  refine ⟨z, hz, ?_, e⟩
  rw [← show z.id = y.id from congrArg AnP.id e]
  exact dist_find (by rw [← h]; exact hd) hz
theorem lawV : Keyed Tryd.prog 9 := string_keyed Tryd.underlying9
theorem zeroV (w : World) : (zeroValue 27).run Tryd.prog w = .ok (.agg #[.string ⟨#[]⟩, .bool false, .slice none 0 0]) w := by kernel_rfl
theorem mapV_below {w w' : World} {P : Program} {k : TypeId} {R : Value → Option (DataW Value × List MemPlace)} {b n : Nat} {D : DataW Value} (h : w.ownsMap P k R b n D) (hb : Below w.heap.size w w') : w'.ownsMap P k R b n D := by
  have hlt := h.lt
  obtain ⟨es, clock, h1, r⟩ := h
  exact ⟨es, clock, (hb.block b hlt).trans h1, r⟩
theorem mapV_not_cells {w : World} {P : Program} {k : TypeId} {R : Value → Option (DataW Value × List MemPlace)} {b m g : Nat} {D : DataW Value} {cs : Array Value} {t : TypeId} {f : Nat × Nat} (h : w.ownsMap P k R b m D) (hr : w.heap[g]? = some (.cells cs t f)) : b ≠ g := by
  obtain ⟨es, clock, h1, _⟩ := h
  rintro rfl
  rw [h1] at hr; cases hr
theorem cell_not_map {w : World} {b : Nat} {es : Array MapEntry} {clock : Nat} {a : Addr} {v : Value} (h : w.heap[b]? = some (.map es clock)) (hc : w.cell? a = some v) : a.block ≠ b := by
  rintro rfl
  simp [World.cell?, h] at hc
theorem putA_ids (l : List AnP) : ∀ b ∈ putA l, b.id.size ≤ 12400 := by
  intro b hb
  obtain ⟨a, _, h⟩ := (putA_mem l b.id).1 ⟨b, hb, rfl⟩
  unfold ofA at h
  rw [Bool.and_eq_true, decide_eq_true_eq, decide_eq_true_eq] at h
  rw [← h.2]; exact nrmA_size _
structure TellMap (qs : List AnP) (w : World) (b n : Nat) (D : DataW Value) (ys : List An) (w' : World) : Prop where
  pl : ys.map An.pl = qs
  map : w'.ownsMap Tryd.prog 9 heldV b n D
  an : AnMap D ys
  size : Maps.size D = ys.length
  fresh : ∀ y ∈ ys, FreshD w' w.heap.size y
  base : w.heap.size ≤ b
  small : ∀ y ∈ ys, y.id.size ≤ maxLen
  below : Below w.heap.size w w'
def TellMapE (qs : List AnP) (w : World) (e : Ending) (w' : World) : Prop := ∃ b n D ys, e = .returned (.map (some b)) ∧ TellMap qs w b n D ys w'
set_option maxRecDepth 100000 in
set_option maxHeartbeats 8000000 in
theorem tell_any (A : Option Addr) (n c : Nat) (l : List An) (B : Option Addr) (p d : Nat) (L : List ByteArray) (w : World) (m : Int) (hl : AnsAt w A n l) (hn : n ≤ 1048576) (hsz : ∀ x ∈ l, x.n ≤ 1048576) (hL : TsAt w B p L) (hp : p ≤ 1048576) (hS : Shorts L) (hm : w.cell? ⟨0, 0, none⟩ = some (.int .i64 m)) :
    Calls Tryd.prog 25 #[.slice A n c, .slice B p d] w (TellMapE (putA (onlyA L (l.map An.pl))) w) := by
  obtain rfl := hl.1
  have hmm := @run_makeMap Tryd.prog
  obtain ⟨W1, hW1⟩ : ∃ W1, W1 = w.alloc (.map #[] 0) := ⟨_, rfl⟩
  have hB1 : Below w.heap.size w W1 := by rw [hW1]; exact (Below.refl _ _).alloc (Nat.le_refl _) _
  have hmap1 : W1.ownsMap Tryd.prog 9 heldV w.heap.size 0 (.map []) := by rw [hW1]; exact World.ownsMap_made w Tryd.prog 9 _
  have hlw : w.heap.size < W1.heap.size := by rw [hW1]; simp
  have O := Lib.hid (only_any A l.length c l B p d L W1 m (hl.below hB1) hn hsz (hL.below hB1) hp hS (max0_below hm hB1))
  have hda : ∀ a ∈ onlyA L (l.map An.pl), a.da.length ≤ 1048576 := by
    intro a ha
    have ha2 := (List.mem_filter.1 ha).1
    obtain ⟨x, hx, rfl⟩ := List.mem_map.1 ha2
    have h1 := (hl.ok x hx).1.1
    show x.da.length ≤ _
    rw [h1]; exact hsz x hx
  have hol := onlyA_len L (l.map An.pl)
  rw [List.length_map] at hol
  obtain ⟨os, hos⟩ : ∃ os, os = onlyA L (l.map An.pl) := ⟨_, rfl⟩
  rw [← hos] at O hda hol ⊢
  have HW1 := Lib.hid hW1
  have HB1 := Lib.hid hB1
  have HM1 := Lib.hid hmap1
  have HM := Lib.hid (fun W hb => max0_below (w := w) (w' := W) hm hb)
  have HDA := Lib.hid hda
  clear hl hsz hL hS hm hW1 hB1 hmap1 hda hos
  go_enter Tryd.func25, Tryd.ntmps25
  go_upto_region 2 with (fail)
  rw [← HW1.out]
  clear hmm
  go_wp2_with fail
  refine O.out.mono ?_
  rintro e w2 ⟨A2, c2, xs, rfl, hxs, -, -, hrow, hB2⟩
  have hB12 := HB1.out.trans (hB2.mono HB1.out.size)
  have hxl : xs.length ≤ 1048576 := by have h := congrArg List.length hxs; rw [List.length_map] at h; omega
  have hxn : ∀ x ∈ xs, x.n ≤ 1048576 := by
    intro x hx
    have h1 := (hrow.2 x hx).ok.1.1
    have h2 := HDA.out x.pl (by rw [← hxs]; exact List.mem_map.2 ⟨x, hx, rfl⟩)
    rw [← h1]; exact h2
  have P := put_any A2 xs.length c2 xs w2 m hrow.at hxl hxn (HM.out _ hB12)
  rw [hxs] at P
  have P := Lib.hid P
  have HB2 := Lib.hid hB12
  have HM2 := Lib.hid (mapV_below HM1.out hB2)
  have hlw2 := Nat.lt_of_lt_of_le hlw hB2.size
  clear hxs hrow hB2 hB12 hxn O HM1
  go_wp2_with fail
  refine P.out.mono ?_
  rintro e w3 ⟨A3, c3, ys, rfl, hys, -, -, hrow, hB3⟩
  have hyl : ys.length ≤ 1048576 := by
    have h := congrArg List.length hys
    have h2 := putA_len os
    rw [List.length_map] at h
    omega
  have hdist : DistA (ys.map An.pl) := by rw [hys]; exact putA_dist os
  have HB3 := Lib.hid (HB2.out.trans (hB3.mono HB2.out.size))
  have HM3 := Lib.hid (mapV_below HM2.out hB3)
  have HAT := Lib.hid hrow.at
  have HFR := Lib.hid (fun y hy => (hrow.2 y hy).base HB2.out.size)
  have hids : ∀ y ∈ ys, y.id.size ≤ 12400 := fun y hy => by
    have h : y.pl ∈ putA os := by rw [← hys]; exact List.mem_map.2 ⟨y, hy, rfl⟩
    exact putA_ids os y.pl h
  have HIDS := Lib.hid hids
  have HDI := Lib.hid hdist
  have HYS := Lib.hid hys
  have hlw3 := Nat.lt_of_lt_of_le hlw2 hB3.size
  clear hys hrow hB3 hdist P HM2 hids
  go_wp2
  go_loopw [14] (fun i wr => ∃ (k : Nat) (D : DataW Value), k ≤ ys.length ∧ i = .int .i64 k ∧ Hid (wr.ownsMap Tryd.prog 9 heldV w.heap.size k D) ∧ Hid (AnMap D (ys.take k)) ∧ Hid (Maps.size D = k) ∧ Hid (w3.grownBy wr (some w.heap.size))) (fun i _ => ys.length - (intOf i).toNat)
  case atStart => exact ⟨0, _, by omega, rfl, HM3.out, AnMap_nil, rfl, ⟨rfl, rfl, rfl, Nat.le_refl _, fun _ _ _ => rfl⟩⟩
  case round =>
    obtain ⟨k, D, hk', rfl, HMP, HK, HSZ, HG⟩ := hrel
    by_cases hlt : k < ys.length
    · obtain ⟨a, y, rfl, hy, hat, hok⟩ := HAT.out.2 k hlt
      have b0 : (0 : Int) ≤ (k : Int) := by omega
      have b1 : (k : Int) < (ys.length : Int) := by omega
      obtain ⟨es, clock, hmb, -⟩ := HM3.out
      have hblk : ∀ (o : Nat) (v : Value), w3.cell? ⟨(a.add (k * 3)).block, o, none⟩ = some v → (some (a.add (k * 3)).block : Option Nat) ≠ some w.heap.size := fun o v h e => by
        injection e with e
        exact cell_not_map hmb h e
      obtain ⟨-, q0, q1, q2⟩ := hat
      have hne := hblk _ _ q1
      have g0 := HG.out.cell q0 hne
      have g1 := HG.out.cell (a := ⟨(a.add (k * 3)).block, (a.add (k * 3)).off + 1, none⟩) q1 hne
      have g2 := HG.out.cell (a := ⟨(a.add (k * 3)).block, (a.add (k * 3)).off + 2, none⟩) q2 hne
      obtain ⟨W, hW, hbW, -, -, c0, c1, c2⟩ := anBox wr y 27
      have HMW := Lib.hid (mapV_below HMP.out hbW)
      have hys := HIDS.out y (List.mem_of_getElem? hy)
      have hkey : keyOf Tryd.prog 9 (.string y.id) = some (.string y.id.data.toList) := WideMaps.keyOf_string_mk Tryd.underlying9 (by unfold maxLen; omega)
      have hnew := dist_new HDI.out hy
      have hta : ys.take (k + 1) = ys.take k ++ [y] := by rw [List.take_add_one, hy]; rfl
      have HK2 : Hid (AnMap (D.put (.string y.id.data.toList) (.held (anV y))) (ys.take (k + 1))) := by
        show AnMap _ _
        rw [hta]; exact AnMap_put HK.out HMW.out.isMap hnew
      have HS2 : Hid (Maps.size (D.put (.string y.id.data.toList) (.held (anV y))) = k + 1) := by
        show _ = _
        rw [size_put HMW.out.isMap (AnMap_has HK.out hnew), HSZ.out]
      have hGW : w3.grownBy W (some w.heap.size) := HG.out.trans ⟨hbW.os, hbW.tape, hbW.output, hbW.size, fun j hj _ => hbW.block j hj⟩
      have HGW := Lib.hid hGW
      have HKEY := Lib.hid hkey
      clear hy hok q0 q1 q2 hbW hys hkey hnew hta hGW hne hblk hmb
      go_wp2_with (at_mapUpdate; refine wpList_mapUpdate_own _ rfl _ _ _ 51 rfl 9 27 lawV Tryd.underlying51 _ w.heap.size k _ rfl HMW.out (by unfold maxLen; omega) _ _ _ rfl rfl HKEY.out _ [] rfl ?_)
      intro w4 hown1 hgrow1
      have HM4 := Lib.hid hown1
      have HG4 := Lib.hid (HGW.out.trans hgrow1)
      clear hown1 hgrow1 g0 g1 g2 c0 c1 c2
      go_wp2
      go_roundw
      case rel => exact ⟨k + 1, _, by omega, by go_num, HM4, HK2, HS2, HG4⟩
      case measure => simp [intOf]; omega
    · obtain rfl : k = ys.length := by omega
      have hk := HK.out
      rw [List.take_length] at hk
      have HK2 := Lib.hid hk
      clear hk HK
      go_wp2
      go_ret
      refine ⟨_, _, D, ys, rfl, HYS.out, HMP.out, HK2.out, HSZ.out, fun y hy => (HFR.out y hy).grown HG.out ?_, Nat.le_refl _, fun y hy => by have := HIDS.out y hy; unfold maxLen; omega, HB3.out.grown HG.out HB3.out.size (fun g e => by cases e; exact Nat.le_refl _)⟩
      intro r cs t e hh
      cases e
      exact absurd rfl (mapV_not_cells HM3.out hh)
theorem heldV_inv {v : Value} {y : DataW Value × List MemPlace} (h : heldV v = some y) : y = (.held v, []) := by unfold heldV at h; injection h with h; exact h.symm
theorem anMap_at {D : DataW Value} {ys : List An} {k : ByteArray} {v : Value} (h : AnMap D ys) (hat : ∀ zd, D.atKey (.string k.data.toList) zd = .held v) : ∃ y ∈ ys, y.id = k ∧ v = anV y := by
  have h1 := h k .nil
  rw [hat] at h1
  cases hf : ys.find? (fun y => decide (y.id = k)) with
  | none => rw [hf] at h1; cases h1
  | some y =>
    rw [hf] at h1
    have h2 := List.find?_some hf
    injection h1 with h1
    exact ⟨y, List.mem_of_find?_eq_some hf, by simpa using h2, h1⟩
theorem keyS_inv {key : Value} {kl : Lit} (h : keyOf Tryd.prog 9 key = some kl) : ∃ s : ByteArray, key = .string s ∧ kl = .string s.data.toList ∧ s.size ≤ maxLen := WideMaps.string_of_keyOf Tryd.underlying9 h
set_option maxRecDepth 100000 in
set_option maxHeartbeats 8000000 in
theorem agree_same (A : Option Addr) (n c : Nat) (l : List An) (A' : Option Addr) (n' c' : Nat) (l' : List An) (B : Option Addr) (p d : Nat) (L : List ByteArray) (w : World) (m : Int) (hl : AnsAt w A n l) (hn : n ≤ 1048576) (hsz : ∀ x ∈ l, x.n ≤ 1048576) (hl' : AnsAt w A' n' l') (hn' : n' ≤ 1048576) (hsz' : ∀ x ∈ l', x.n ≤ 1048576) (hL : TsAt w B p L) (hp : p ≤ 1048576) (hS : Shorts L) (hm : w.cell? ⟨0, 0, none⟩ = some (.int .i64 m)) (h : onlyA L (l.map An.pl) = onlyA L (l'.map An.pl)) :
    Calls Tryd.prog 18 #[.slice A n c, .slice A' n' c', .slice B p d] w (BelB true w) := by
  have T1 := Lib.hid (tell_any A n c l B p d L w m hl hn hsz hL hp hS hm)
  have T2 := Lib.hid (fun W (hb : Below w.heap.size w W) => tell_any A' n' c' l' B p d L W m (hl'.below hb) hn' hsz' (hL.below hb) hp hS (max0_below hm hb))
  have HE := Lib.hid h
  clear hl hl' hsz hsz' hL hS hm h
  go_enter Tryd.func18, Tryd.ntmps18
  go_wp2_with fail
  refine T1.out.mono ?_
  rintro e w1 ⟨b1, n1, D1, ys, rfl, tm1⟩
  have B1 := Lib.hid tm1.below
  have TM1 := Lib.hid tm1
  have T2b := Lib.hid (T2.out w1 tm1.below)
  clear tm1 T1 T2
  go_wp2_with fail
  refine T2b.out.mono ?_
  rintro e w2 ⟨b2, n2, D2, zs, rfl, tm2⟩
  have hB12 := tm2.below
  have HB2 := Lib.hid (B1.out.trans (hB12.mono B1.out.size))
  have M1 := Lib.hid (mapV_below TM1.out.map hB12)
  have M2 := Lib.hid tm2.map
  have A1 := Lib.hid TM1.out.an
  have A2 := Lib.hid tm2.an
  have F1 := Lib.hid (fun y hy => ((TM1.out.fresh y hy).below hB12).ok)
  have F2 := Lib.hid (fun y hy => (tm2.fresh y hy).ok)
  have SAME : Hid (ys.map An.pl = zs.map An.pl) := by show _ = _; rw [TM1.out.pl, tm2.pl, HE.out]
  have DI : Hid (DistA (ys.map An.pl)) := by show DistA _; rw [TM1.out.pl]; exact putA_dist _
  have hsz : Maps.size D1 = Maps.size D2 := by
    rw [TM1.out.size, tm2.size]
    have := congrArg List.length SAME.out
    simpa using this
  have HSZ := Lib.hid hsz
  have hlb1 : b1 < w1.heap.size := TM1.out.map.lt
  have hbb : w1.heap.size ≤ b2 := tm2.base
  have HB1L := Lib.hid (show w.heap.size ≤ b1 from TM1.out.base)
  clear tm2 hB12 hsz TM1 T2b HE B1
  go_wp2_with (at_range; refine wpList_range_own _ rfl _ 51 rfl 9 27 lawV Tryd.underlying51 _ b1 n1 _ rfl M1.out ?_; intro w3 hrg hg3 hs3)
  go_frame
  have hw2 : b1 < w2.heap.size := M1.out.lt
  have hw2b : b2 < w2.heap.size := M2.out.lt
  have M2 := Lib.hid (M2.out.kept hg3 (by simp))
  have HB3 := Lib.hid (HB2.out.grown hg3 HB2.out.size (fun k e => by cases e))
  have HX3 : Hid (Below w2.heap.size w2 w3) := (Below.refl _ _).grown hg3 (Nat.le_refl _) (fun k e => by cases e)
  have hz2 := HB2.out.size
  clear hg3
  go_loopw [9] (fun _ wr => ∃ (left : Lit → Bool) (cnt : Nat), Hid (wr.ranges Tryd.prog 9 heldV b1 w2.heap.size n1 D1 left cnt) ∧ Hid (wr.ownsMap Tryd.prog 9 heldV b2 n2 D2) ∧ Hid (Below w2.heap.size w2 wr)) (fun _ wr => wr.rangeLeft b1 w2.heap.size)
  case atStart => exact ⟨_, _, hrg, M2, HX3⟩
  case round =>
    obtain ⟨left, cnt, RG, MZ, BX⟩ := hrel
    go_wp2_with (at_next; refine wpList_next_ranges _ rfl _ rfl 9 lawV heldV Value.string (fun v : Value => v) (fun key kl hk => by obtain ⟨s, h1, _⟩ := keyS_inv hk; exact ⟨s, h1⟩) (fun v y _ => ⟨v, rfl⟩) b1 w2.heap.size n1 _ _ _ rfl RG.out ?_ ?_)
    · intro _ _
      have hl1 := RG.out.owns.len Tryd.underlying51
      have hl2 := MZ.out.len Tryd.underlying51
      rw [HSZ.out] at hl1
      go_wp2
      go_ret
      exact ⟨rfl, HB2.out.trans (BX.out.mono hz2)⟩
    · intro x v kl da dps w4 cnt4 hkey hlk hv hat hrg4 hlt hg4 hs4 hen
      obtain ⟨s, hs, hks, hsz⟩ := keyS_inv hkey
      cases hs
      subst hks
      have hda := heldV_inv hv
      injection hda with hda _
      subst hda
      obtain ⟨y, hy, hyx, rfl⟩ := anMap_at A1.out hat
      subst hyx
      obtain ⟨z, hz, hzf, hzy⟩ := same_find SAME.out DI.out hy
      have BX4 := BX.out.grown hg4 (by exact BX.out.size) (fun k e => by cases e; exact Nat.le_refl _)
      have M4 := MZ.out.kept hg4 (by intro e; injection e with e; omega)
      obtain ⟨V, hV, hbV, hhV, hltV, c0, c1, c2⟩ := anBox w4 y 27
      have MV := mapV_below M4 hbV
      have RV : V.ranges Tryd.prog 9 heldV b1 w2.heap.size n1 D1 (fun z_1 => left z_1 && !z_1.sameKey (.string y.id.data.toList)) cnt4 := by rw [← hV]; exact hrg4.alloc _
      have BXV := BX4.trans (hbV.mono (by rw [hs4]; exact BX.out.size))
      obtain ⟨v2, ps2, hrun, hR⟩ := MV.look_ok lawV Tryd.underlying51 (zeroV _) (zd := .held (.agg #[.string ⟨#[]⟩, .bool false, .slice none 0 0])) (zp := []) rfl hkey
      have hat2 : ∀ zd, D2.atKey (.string y.id.data.toList) zd = .held (anV z) := fun zd => by rw [A2.out y.id zd, hzf]
      have hhas := has_true_of_atKey hat2
      rw [hat2] at hR
      have hR2 := heldV_inv hR
      injection hR2 with hR2 _
      injection hR2 with hR2
      subst hR2
      rw [hhas] at hrun
      obtain ⟨U, hU, hbU, hhU, hltU, d0, d1, d2⟩ := anBox V z 27
      have BXU := BXV.trans (hbU.mono BXV.size)
      have MU := mapV_below MV hbU
      have RU : U.ranges Tryd.prog 9 heldV b1 w2.heap.size n1 D1 (fun z_1 => left z_1 && !z_1.sameKey (.string y.id.data.toList)) cnt4 := by rw [← hU]; exact RV.alloc _
      have e1 := (hbU.cell (p := ⟨w4.heap.size, 1, none⟩) hltV).trans c1
      have e2 := (hbU.cell (p := ⟨w4.heap.size, 2, none⟩) hltV).trans c2
      have k1 := convB U y.D y.n y.c y.da ((F1.out y hy).1.below BXU)
      have k2 := convB U z.D z.n z.c z.da ((F2.out z hz).1.below BXU)
      have BE := Tryd.bytes_Equal (.slice y.D y.n y.c) (.slice z.D z.n z.c) y.da z.da U k1 k2
      obtain ⟨p1, p2, p3⟩ : z.id = y.id ∧ z.ok = y.ok ∧ z.da = y.da := by
        unfold An.pl at hzy
        injection hzy with h1 h2 h3
        exact ⟨h1, h2, h3⟩
      rw [p3, show (Lib.bytesOf y.da == Lib.bytesOf y.da) = true by simp] at BE
      rw [p2] at d1
      have BE := Lib.hid BE
      have RU := Lib.hid RU
      have MU := Lib.hid MU
      have BXU := Lib.hid BXU
      have HLT := Lib.hid hlt
      unfold anV at hen hrun
      rw [p2] at hrun hU
      have tq : (y.ok != y.ok) = false := by simp
      clear hkey hlk hv hat hrg4 hg4 hs4 hy hz hzf hzy BX4 M4 hbV hhV MV RV BXV hR hat2 hhas hbU hhU hltU k1 k2 p1 p2 p3 hlt hltV hsz c0
      go_wp2_with fail
      refine BE.out.mono ?_
      rintro e w9 ⟨rfl, rfl⟩
      clear BE
      go_wp2
      go_roundw
      case rel => exact ⟨_, cnt4, RU, MU, BXU⟩
      case measure => rw [RU.out.left_eq, RG.out.left_eq]; exact HLT.out
end Go.Proofs.YtkpefendeonemaaDoor
