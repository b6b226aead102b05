/- The contract of oracle.Find: the first answer of an identifier. Conditions: at most 2^20 answers, each of at most 2^20 bytes; internal/bytealg.MaxLen holds an int. -/
import Derived.Test.YtkneafpmgbgalaaGreatDoorOrPut
namespace Go.Proofs.YtkneafpmgbgalaaGreatDoor
open Go.RowKit Go.Maps Go.Proofs.YtkneafpmgbgalaaGreatDoor.UriPlain
set_option linter.unusedVariables false
set_option linter.unusedSimpArgs false
def zeroA : AnP := ⟨⟨#[]⟩, false, []⟩
def foundA (ps : List AnP) (id : ByteArray) : Option AnP := if errA id = 0 then (putA ps).find? (fun a => decide (a.id = nrmA id)) else none
def FreshZ (w : World) (base : Nat) (y : An) : Prop := FreshD w base y ∨ y = ⟨⟨#[]⟩, false, none, 0, 0, []⟩
theorem FreshZ.ok {w : World} {base : Nat} {y : An} (h : FreshZ w base y) : AnOk w y := by
  rcases h with h | rfl
  · exact h.ok
  · exact ⟨⟨rfl, fun k hk => absurd hk (by simp)⟩, Nat.le_refl _, by simp⟩
theorem FreshZ.below {w w' : World} {base : Nat} {y : An} (h : FreshZ w base y) (hb : Below w.heap.size w w') : FreshZ w' base y := h.imp (fun h => h.below hb) id
def TellFound (o : Option AnP) (w : World) (e : Ending) (w' : World) : Prop := ∃ (y : An), e = .returned (.tuple #[.agg #[.string y.id, .bool y.ok, .slice y.D y.n y.c], .bool o.isSome]) ∧ y.pl = o.getD zeroA ∧ FreshZ w' w.heap.size y ∧ Below w.heap.size w w'
theorem find_pre {ps : List AnP} {k : Nat} {nm : ByteArray} (h : ∀ a ∈ ps.take k, ¬ a.id = nm) {x : AnP} (hx : ps[k]? = some x) (he : x.id = nm) : ps.find? (fun a => decide (a.id = nm)) = some x := by
  have hs : ps = ps.take k ++ x :: ps.drop (k + 1) := by
    have hk := (List.getElem?_eq_some_iff.1 hx).1
    have h2 := (List.getElem?_eq_some_iff.1 hx).2
    conv => lhs; rw [← List.take_append_drop k ps]
    rw [List.drop_eq_getElem_cons hk, h2]
  rw [hs, List.find?_append, List.find?_eq_none.2 (fun a ha => by simpa using h a ha), Option.none_or, List.find?_cons, decide_eq_true he]
theorem find_no {ps : List AnP} {nm : ByteArray} (h : ∀ a ∈ ps, ¬ a.id = nm) : ps.find? (fun a => decide (a.id = nm)) = none := List.find?_eq_none.2 (fun a ha => by simpa using h a ha)
set_option maxRecDepth 100000 in
set_option maxHeartbeats 8000000 in
theorem ofind_any (A : Option Addr) (n c : Nat) (l : List An) (id : ByteArray) (w : World) (m : Int) (hl : AnsAt w A n l) (hn : n ≤ 1048576) (hsz : ∀ x ∈ l, x.n ≤ 1048576) (hm : w.cell? ⟨0, 0, none⟩ = some (.int .i64 m)) :
    Calls Tryz.prog 39 #[.slice A n c, .string id] w (TellFound (foundA (l.map An.pl) id) w) := by
  obtain ⟨W0, hW0⟩ : ∃ W0, W0 = w.alloc (.cells #[.string ⟨#[]⟩, .bool false, .slice none 0 0] 51) := ⟨_, rfl⟩
  have hB0 : Below w.heap.size w W0 := by rw [hW0]; exact (Below.refl _ _).alloc (Nat.le_refl _) _
  have hh0 : W0.heap[w.heap.size]? = some (.cells #[.string ⟨#[]⟩, .bool false, .slice none 0 0] 51 (0, 0)) := by rw [hW0]; exact heap_alloc_new w _
  have hs0 : w.heap.size < W0.heap.size := by rw [hW0]; simp
  have hlt0 : 0 < w.heap.size := World.block_lt_of_cell? _ _ hm
  have hm0 := (hB0.cell (p := ⟨0, 0, none⟩) hlt0).trans hm
  have NM := Lib.hid (norm_free id W0 m hm0)
  obtain ⟨o, ho⟩ : ∃ o, o = foundA (l.map An.pl) id := ⟨_, rfl⟩
  rw [← ho]
  unfold foundA at ho
  have HO := Lib.hid ho
  have HW0 := Lib.hid hW0
  have HB0 := Lib.hid hB0
  have HH0 := Lib.hid hh0
  have HS0 := Lib.hid hs0
  have hll := hl.1
  have PT := Lib.hid (fun W (hb : Below W0.heap.size W0 W) => put_any A n c l W m ((hl.below hB0).below hb) hn hsz ((hb.cell (p := ⟨0, 0, none⟩) (Nat.lt_trans hlt0 hs0)).trans hm0))
  clear hl hsz hm hW0 hB0 hh0 hs0 hlt0 hm0 ho
  go_enter Tryz.func39, Tryz.ntmps39
  go_wp2_with fail
  rw [← HW0.out]
  refine NM.out.mono ?_
  rintro e w1 ⟨rfl, hB1⟩
  rw [show bS (normU id.data.toList) = nrmA id from rfl, show uriE id.data.toList = errA id from rfl]
  have hh1 := (hB1.block _ HS0.out).trans HH0.out
  have HB1 := Lib.hid hB1
  have HH1 := Lib.hid hh1
  have PT1 := Lib.hid (PT.out w1 hB1)
  clear hB1 hh1 NM PT
  by_cases her : errA id = 0
  · have ho := HO.out
    rw [if_pos her] at ho
    rw [her]
    generalize nrmA id = nm at *
    have HO2 := Lib.hid ho
    clear ho HO her
    go_wp2_with fail
    refine PT1.out.mono ?_
    rintro e w2 ⟨A2, c2, ys, rfl, hys, -, -, hrow, hB2⟩
    have hyl : ys.length ≤ n := by
      have h := congrArg List.length hys
      have h2 := putA_len (l.map An.pl)
      rw [List.length_map] at h h2
      rw [h]; omega
    have HB2 := Lib.hid (HB1.out.trans (hB2.mono HB1.out.size))
    have HFR := Lib.hid (fun x hx => (hrow.2 x hx).base HB1.out.size)
    have HAT := Lib.hid hrow.at
    have HYS := Lib.hid hys
    clear hys hrow hB2 PT1
    go_wp2
    go_loopw [21] (fun v21 wr => ∃ (k : Nat), k ≤ ys.length ∧ v21 = .int .i64 k ∧ Hid (∀ a ∈ (ys.map An.pl).take k, ¬ a.id = nm) ∧ Hid (Below w2.heap.size w2 wr)) (fun v21 _ => ys.length - (intOf v21).toNat)
    case atStart => exact ⟨0, Nat.zero_le _, rfl, (by intro a ha; simp at ha), Below.refl _ _⟩
    case round =>
      obtain ⟨k, hk, rfl, HN, HB⟩ := hrel
      by_cases hlt : k < ys.length
      · obtain ⟨a, x, rfl, hx, hat, -⟩ := HAT.out.2 k hlt
        have b0 : (0 : Int) ≤ (k : Int) := by omega
        have b1 : (k : Int) < (ys.length : Int) := by omega
        obtain ⟨-, g0, g1, g2⟩ := hat.below HB.out hat.1
        obtain ⟨W, hW, hbW, hhW, hltW, c0, c1, c2⟩ := anBox wr x 51
        have HBW := Lib.hid (HB.out.trans (hbW.mono HB.out.size))
        have hxp : (ys.map An.pl)[k]? = some x.pl := by rw [List.getElem?_map, hx]; rfl
        have hfx := HFR.out x (List.mem_of_getElem? hx)
        have HFX := Lib.hid hfx
        have HXP := Lib.hid hxp
        clear hx hat hbW hhW hltW hxp hfx
        by_cases hid : x.id = nm
        · have E0 : (x.id.toList == nm.toList) = true := by rw [hid]; simp
          have hor : o = some x.pl := by rw [HO2.out, ← HYS.out]; exact find_pre HN.out HXP.out hid
          subst hor
          have BW := HB2.out.trans (HBW.out.mono HB2.out.size)
          have hhR := (BW.block w.heap.size HS0.out).trans HH0.out
          have d0 : W.cell? ⟨w.heap.size, 0, none⟩ = some (.string ⟨#[]⟩) := by rw [Lib.cell_of_heap hhR]; rfl
          have d1 : W.cell? ⟨w.heap.size, 1, none⟩ = some (.bool false) := by rw [Lib.cell_of_heap hhR]; rfl
          have d2 : W.cell? ⟨w.heap.size, 2, none⟩ = some (.slice none 0 0) := by rw [Lib.cell_of_heap hhR]; rfl
          have f0 := Lib.frozen_of_heap hhR 0
          have f1 := Lib.frozen_of_heap hhR 1
          have f2 := Lib.frozen_of_heap hhR 2
          have HR := Lib.hid hhR
          have HBB := Lib.hid (HB0.out.trans (BW.mono HB0.out.size))
          have HFW := Lib.hid ((HFX.out.below HBW.out).base (Nat.le_of_lt HS0.out))
          clear hid hhR BW
          go_wp2
          refine bodyPost_ret (v := .tuple #[.agg #[.string x.id, .bool x.ok, .slice x.D x.n x.c], .bool true]) (by simp [results, Tryz.results39, go_sem, c0, c1, c2, d0, d1, d2, f0, f1, f2]) rfl ?_
          refine ⟨x, rfl, rfl, .inl (HFW.out.grown (row := some w.heap.size) ?_ ?_), ((HBB.out.setCell (by simp) _).setCell (by simp) _).setCell (by simp) _⟩
          · exact ((grownBy_setO _ ⟨w.heap.size, 0, none⟩ _).trans (grownBy_setO _ ⟨w.heap.size, 1, none⟩ _)).trans (grownBy_setO _ ⟨w.heap.size, 2, none⟩ _)
          · intro r cs t e hh
            cases e
            rw [HR.out] at hh
            cases hh
            decide
        · have E0 : (x.id.toList == nm.toList) = false := by rw [beq_eq_false_iff_ne, ByteArray.toList_eq, ByteArray.toList_eq]; exact fun h => hid (Go.WideShapes.bytes_inj h)
          have HN2 : Hid (∀ a ∈ (ys.map An.pl).take (k + 1), ¬ a.id = nm) := by
            intro a ha
            rw [List.take_add_one, HXP.out] at ha
            rcases List.mem_append.1 ha with ha | ha
            · exact HN.out a ha
            · simp at ha; subst ha; exact hid
          clear hid
          go_wp2
          go_roundw
          case rel => exact ⟨k + 1, by omega, by go_num, HN2, HBW⟩
          case measure => simp [intOf]; omega
      · obtain rfl : k = ys.length := by omega
        have hn2 := HN.out
        rw [List.take_of_length_le (by simp)] at hn2
        have hor : o = none := by rw [HO2.out, ← HYS.out]; exact find_no hn2
        subst hor
        have BW := HB2.out.trans (HB.out.mono HB2.out.size)
        have hhR := (BW.block w.heap.size HS0.out).trans HH0.out
        have d0 : wr.cell? ⟨w.heap.size, 0, none⟩ = some (.string ⟨#[]⟩) := by rw [Lib.cell_of_heap hhR]; rfl
        have d1 : wr.cell? ⟨w.heap.size, 1, none⟩ = some (.bool false) := by rw [Lib.cell_of_heap hhR]; rfl
        have d2 : wr.cell? ⟨w.heap.size, 2, none⟩ = some (.slice none 0 0) := by rw [Lib.cell_of_heap hhR]; rfl
        have f0 := Lib.frozen_of_heap hhR 0
        have f1 := Lib.frozen_of_heap hhR 1
        have f2 := Lib.frozen_of_heap hhR 2
        have HBB := Lib.hid (HB0.out.trans (BW.mono HB0.out.size))
        clear hn2 hhR BW
        go_wp2
        refine bodyPost_ret (v := .tuple #[.agg #[.string ⟨#[]⟩, .bool false, .slice none 0 0], .bool false]) (by simp [results, Tryz.results39, go_sem, d0, d1, d2, f0, f1, f2]) rfl ?_
        exact ⟨⟨⟨#[]⟩, false, none, 0, 0, []⟩, rfl, rfl, .inr rfl, ((HBB.out.setCell (by simp) _).setCell (by simp) _).setCell (by simp) _⟩
  · have ho := HO.out
    rw [if_neg her] at ho
    subst ho
    have t1 : (errA id != 0) = true := by simpa using her
    have d0 : w1.cell? ⟨w.heap.size, 0, none⟩ = some (.string ⟨#[]⟩) := by rw [Lib.cell_of_heap HH1.out]; rfl
    have d1 : w1.cell? ⟨w.heap.size, 1, none⟩ = some (.bool false) := by rw [Lib.cell_of_heap HH1.out]; rfl
    have d2 : w1.cell? ⟨w.heap.size, 2, none⟩ = some (.slice none 0 0) := by rw [Lib.cell_of_heap HH1.out]; rfl
    have f0 := Lib.frozen_of_heap HH1.out 0
    have f1 := Lib.frozen_of_heap HH1.out 1
    have f2 := Lib.frozen_of_heap HH1.out 2
    have HBB := Lib.hid (HB0.out.trans (HB1.out.mono HB0.out.size))
    clear her PT1 HO
    go_wp2
    refine bodyPost_ret (v := .tuple #[.agg #[.string ⟨#[]⟩, .bool false, .slice none 0 0], .bool false]) (by simp [results, Tryz.results39, go_sem, d0, d1, d2, f0, f1, f2]) rfl ?_
    exact ⟨⟨⟨#[]⟩, false, none, 0, 0, []⟩, rfl, rfl, .inr rfl, ((HBB.out.setCell (by simp) _).setCell (by simp) _).setCell (by simp) _⟩
end Go.Proofs.YtkneafpmgbgalaaGreatDoor
