/- The walk of OracleFinds. Conditions: internal/bytealg.MaxLen holds an int. -/
import Derived.Test.YtkpefendeonemaaDoorOrLaw
import Derived.Test.YtkpefendeonemaaDoorOrLive
namespace Go.Proofs.YtkpefendeonemaaDoor
open Go.RowKit Go.Maps Go.Proofs.YtkpefendeonemaaDoor.UriPlain
set_option linter.unusedVariables false
set_option linter.unusedSimpArgs false
theorem putA_da (l : List AnP) : ∀ b ∈ putA l, b.da = [] ∨ ∃ a ∈ l, b.da = a.da := by
  refine rec_snoc (p := fun l => ∀ b ∈ putA l, b.da = [] ∨ ∃ a ∈ l, b.da = a.da) (by simp [putA]) (fun l a ih => ?_) l
  intro b hb
  rw [putA_snoc] at hb
  have h0 : b ∈ putA l → b.da = [] ∨ ∃ x ∈ l ++ [a], b.da = x.da := fun h => (ih b h).imp id (fun ⟨x, hx, e⟩ => ⟨x, List.mem_append_left _ hx, e⟩)
  unfold stepA at hb
  split at hb
  · rcases List.mem_append.1 hb with hb | hb
    · exact h0 hb
    · simp at hb; subst hb
      unfold canA
      cases a.ok
      · exact .inl rfl
      · exact .inr ⟨a, by simp, rfl⟩
  · exact h0 hb
theorem ans_len {l : List An} {w : World} {A : Option Addr} {n : Nat} (h : AnsAt w A n l) {B : Nat} (hb : ∀ x ∈ l, x.n ≤ B) : ∀ a ∈ l.map An.pl, a.da.length ≤ B := by
  intro a ha
  obtain ⟨x, hx, rfl⟩ := List.mem_map.1 ha
  have h1 := (h.ok x hx).1.1
  show x.da.length ≤ B
  rw [h1]; exact hb x hx
theorem box_below {w w' : World} {b : Nat} {cs : Array Value} {t : TypeId} (h : w.heap[b]? = some (.cells cs t (0, 0))) (hb : Below w.heap.size w w') : w'.heap[b]? = some (.cells cs t (0, 0)) := (hb.block b (Array.getElem?_eq_some_iff.1 h).1).trans h
theorem maxA_below {w w' : World} {m : Int} (hm : w.cell? ⟨0, 0, none⟩ = some (.int .i64 m)) (hb : Below w.heap.size w w') : w'.cell? ⟨0, 0, none⟩ = some (.int .i64 m) := (hb.cell (p := ⟨0, 0, none⟩) (World.block_lt_of_cell? _ _ hm)).trans hm
set_option maxRecDepth 100000 in
set_option maxHeartbeats 8000000 in
theorem oracleFinds_in (A : Option Addr) (n c : Nat) (l : List An) (id : ByteArray) (w : World) (m : Int) (hl : AnsAt w A n l) (hm : w.cell? ⟨0, 0, none⟩ = some (.int .i64 m)) (hn : n ≤ 9223372036854775807) (hg : greatA l = false) (hid : id.size ≤ 200) :
    Calls Tryd.prog 3 #[.slice A n c, .string id] w (BelB true w) := by
  obtain rfl := hl.1
  have G := great23_any A l.length c l w hn hl
  rw [hg] at G
  obtain ⟨hl260, hxs⟩ := greatA_no hg
  have t0 : ¬ (200 : Int) < (id.size : Int) := by omega
  obtain ⟨o, ho⟩ : ∃ o, o = foundA (l.map An.pl) id := ⟨_, rfl⟩
  obtain ⟨ps, hps⟩ : ∃ ps, ps = putA (l.map An.pl) := ⟨_, rfl⟩
  obtain ⟨ck, hck⟩ : ∃ ck, ck = checkA (l.map An.pl) := ⟨_, rfl⟩
  have hs4 : ∀ a ∈ l.map An.pl, a.id.size ≤ 4000 := by
    intro a ha
    obtain ⟨x, hx, rfl⟩ := List.mem_map.1 ha
    have := (hxs x hx).1
    show x.id.size ≤ 4000
    omega
  have hfp : foundA ps id = o := by rw [hps, ho]; exact found_put _ _ hs4
  have hda : ∀ b ∈ ps, b.da.length ≤ 1048576 := by
    intro b hb
    rw [hps] at hb
    rcases putA_da _ b hb with h | ⟨a, ha, h⟩
    · rw [h]; simp
    · rw [h]
      have := ans_len hl (fun x hx => (hxs x hx).2) a ha
      omega
  have C2 : Hid (∀ W, Below w.heap.size w W → Calls Tryd.prog 8 #[.slice A l.length c, .string id] W (TellTold o w W)) := fun W hb => by
    have h := rtold_any A l.length c l id w W hl hb (by omega)
    rwa [told_found, ← ho] at h
  have C1 : Hid (∀ W, Below w.heap.size w W → Calls Tryd.prog 7 #[.slice A l.length c, .string id] W (TellFound o W)) := fun W hb => by
    have h := ofind_any A l.length c l id W m (hl.below hb) (by omega) (fun x hx => Nat.le_trans (hxs x hx).2 (by decide)) (maxA_below hm hb)
    rwa [← ho] at h
  have C3 : Hid (∀ W, Below w.heap.size w W → Calls Tryd.prog 9 #[.slice A l.length c] W (TellAns ps W)) := fun W hb => by
    have h := put_any A l.length c l W m (hl.below hb) (by omega) (fun x hx => Nat.le_trans (hxs x hx).2 (by decide)) (maxA_below hm hb)
    rwa [← hps] at h
  have C4 : Hid (∀ W, Below w.heap.size w W → Calls Tryd.prog 12 #[.slice A l.length c] W (TellAnsR ps W)) := fun W hb => by
    have h := rput_any A l.length c l W (hl.below hb) (by omega)
    rwa [← hps] at h
  have C5 : Hid (∀ W, Below w.heap.size w W → Calls Tryd.prog 13 #[.slice A l.length c] W (BelI ck W)) := fun W hb => by
    have h := ocheck_any A l.length c l W m (hl.below hb) hn (maxA_below hm hb)
    rwa [← hck] at h
  have C6 : Hid (∀ W, Below w.heap.size w W → Calls Tryd.prog 14 #[.slice A l.length c] W (BelI ck W)) := fun W hb => by
    have h := rcheckO_any A l.length c l W (hl.below hb) (by omega)
    rwa [← hck] at h
  have CL := Lib.hid (fun W (hb : Below w.heap.size w W) => live23_any W m (maxA_below hm hb))
  have HM := Lib.hid (fun W (hb : Below w.heap.size w W) => maxA_below hm hb)
  have G := Lib.hid G
  have HFP := Lib.hid hfp
  have HDA := Lib.hid hda
  have hpl : ps.length ≤ 260 := by
    rw [hps]
    have h := putA_len (l.map An.pl)
    rw [List.length_map] at h
    omega
  clear hl hm hg hxs hs4 hfp hda ho hps hck
  generalize hll : l.length = n at *
  go_enter Tryd.func3, Tryd.ntmps3
  go_wp2_with fail
  refine G.out.mono ?_
  rintro e w1 ⟨rfl, rfl⟩
  go_wp2_with fail
  refine (C1.out w (Below.refl _ _)).mono ?_
  rintro e w2 ⟨y1, rfl, hy1, hf1, hB2⟩
  obtain ⟨W3, hW3, hb3, hh3, hlt3, p0, p1, p2⟩ := anBox w2 y1 27
  have HB3 := Lib.hid (hB2.trans (hb3.mono hB2.size))
  have HH3 := Lib.hid hh3
  have OK1 := Lib.hid (hf1.ok.below hb3)
  have HY1 := Lib.hid hy1
  clear hy1 hf1 hB2 hb3 hh3 hlt3 G p0 p1 p2
  go_wp2_with fail
  refine (C2.out W3 HB3.out).mono ?_
  rintro e w4 ⟨y2, rfl, hy2, hf2, hB4⟩
  obtain ⟨W5, hW5, hb5, hh5, hlt5, p0, p1, p2⟩ := anBox w4 y2 27
  have hb45 := hB4.trans (hb5.mono hB4.size)
  have HB5 := Lib.hid (HB3.out.trans (hb45.mono HB3.out.size))
  have HH3 := Lib.hid (box_below HH3.out hb45)
  have OK1 := Lib.hid (OK1.out.below hb45)
  have HH5 := Lib.hid hh5
  have OK2 := Lib.hid (hf2.below HB5.out)
  have HY2 := Lib.hid hy2
  clear hy2 hf2 hB4 hb5 hh5 hlt5 hb45 p0 p1 p2
  go_wp2_with fail
  refine (C3.out W5 HB5.out).mono ?_
  rintro e w6 ⟨A6, c6, ys, rfl, hys, hcc, hcc2, hrow, hB6⟩
  have HB6 := Lib.hid (HB5.out.trans (hB6.mono HB5.out.size))
  have HH3 := Lib.hid (box_below HH3.out hB6)
  have HH5 := Lib.hid (box_below HH5.out hB6)
  have OK1 := Lib.hid (OK1.out.below hB6)
  have OK2 := Lib.hid (OK2.out.below hB6)
  have hyn : ∀ x ∈ ys, x.n ≤ 1048576 := by
    intro x hx
    have h1 := (hrow.2 x hx).ok.1.1
    have h2 := HDA.out x.pl (by rw [← hys]; exact List.mem_map.2 ⟨x, hx, rfl⟩)
    rw [← h1]; exact h2
  have hyl : ys.length ≤ 260 := by have h := congrArg List.length hys; rw [List.length_map] at h; omega
  have C7 := ofind_any A6 ys.length c6 ys id w6 m hrow.at (by omega) hyn (HM.out _ HB6.out)
  rw [hys, HFP.out] at C7
  have C7 := Lib.hid C7
  clear hys hcc hcc2 hrow hB6 hyn
  go_wp2_with fail
  refine C7.out.mono ?_
  rintro e w7 ⟨y3, rfl, hy3, hf3, hB7⟩
  obtain ⟨W8, hW8, hb8, hh8, hlt8, p0, p1, p2⟩ := anBox w7 y3 27
  have hb78 := hB7.trans (hb8.mono hB7.size)
  have HB8 := Lib.hid (HB6.out.trans (hb78.mono HB6.out.size))
  have HH3 := Lib.hid (box_below HH3.out hb78)
  have HH5 := Lib.hid (box_below HH5.out hb78)
  have OK1 := Lib.hid (OK1.out.below hb78)
  have OK2 := Lib.hid (OK2.out.below hb78)
  have HH8 := Lib.hid hh8
  have OK3 := Lib.hid (hf3.ok.below hb8)
  have HY3 := Lib.hid hy3
  clear hy3 hf3 hB7 hb8 hh8 hlt8 hb78 C7 p0 p1 p2
  have q0 : W8.cell? ⟨w2.heap.size, 0, none⟩ = some (.string y1.id) := by rw [Lib.cell_of_heap HH3.out]; rfl
  have q1 : W8.cell? ⟨w2.heap.size, 1, none⟩ = some (.bool y1.ok) := by rw [Lib.cell_of_heap HH3.out]; rfl
  have q2 : W8.cell? ⟨w2.heap.size, 2, none⟩ = some (.slice y1.D y1.n y1.c) := by rw [Lib.cell_of_heap HH3.out]; rfl
  have r0 : W8.cell? ⟨w4.heap.size, 0, none⟩ = some (.string y2.id) := by rw [Lib.cell_of_heap HH5.out]; rfl
  have r1 : W8.cell? ⟨w4.heap.size, 1, none⟩ = some (.bool y2.ok) := by rw [Lib.cell_of_heap HH5.out]; rfl
  have r2 : W8.cell? ⟨w4.heap.size, 2, none⟩ = some (.slice y2.D y2.n y2.c) := by rw [Lib.cell_of_heap HH5.out]; rfl
  have O1 := Lib.hid (one_same y1 y2 W8 OK1.out OK2.out (HY1.out.trans HY2.out.symm))
  go_wp2_with fail
  refine O1.out.mono ?_
  rintro e w9 ⟨rfl, hB9⟩
  have HB9 := Lib.hid (HB8.out.trans (hB9.mono HB8.out.size))
  have hH5 := box_below HH5.out hB9
  have hH8 := box_below HH8.out hB9
  have O2 := one_same y3 y2 w9 (OK3.out.below hB9) (OK2.out.below hB9) (HY3.out.trans HY2.out.symm)
  have q0 : w9.cell? ⟨w7.heap.size, 0, none⟩ = some (.string y3.id) := by rw [Lib.cell_of_heap hH8]; rfl
  have q1 : w9.cell? ⟨w7.heap.size, 1, none⟩ = some (.bool y3.ok) := by rw [Lib.cell_of_heap hH8]; rfl
  have q2 : w9.cell? ⟨w7.heap.size, 2, none⟩ = some (.slice y3.D y3.n y3.c) := by rw [Lib.cell_of_heap hH8]; rfl
  have r0 : w9.cell? ⟨w4.heap.size, 0, none⟩ = some (.string y2.id) := by rw [Lib.cell_of_heap hH5]; rfl
  have r1 : w9.cell? ⟨w4.heap.size, 1, none⟩ = some (.bool y2.ok) := by rw [Lib.cell_of_heap hH5]; rfl
  have r2 : w9.cell? ⟨w4.heap.size, 2, none⟩ = some (.slice y2.D y2.n y2.c) := by rw [Lib.cell_of_heap hH5]; rfl
  have O2 := Lib.hid O2
  have tb : (o.isSome == o.isSome) = true := by simp
  clear hB9 hH5 hH8 O1 HH3 HH5 HH8 OK1 OK2 OK3 HY1 HY2 HY3
  go_wp2_with fail
  refine O2.out.mono ?_
  rintro e w10 ⟨rfl, hB10⟩
  have HB10 := Lib.hid (HB9.out.trans (hB10.mono HB9.out.size))
  clear hB10 O2 q0 q1 q2 r0 r1 r2
  go_wp2_with fail
  refine (C3.out w10 HB10.out).mono ?_
  rintro e w11 ⟨A1, c1, y1s, rfl, hy1, _, _, hr1, hB11⟩
  have HB11 := Lib.hid (HB10.out.trans (hB11.mono HB10.out.size))
  have HA1 := Lib.hid hr1.at
  have HY1 := Lib.hid hy1
  have hl1 : y1s.length ≤ 260 := by have h := congrArg List.length hy1; rw [List.length_map] at h; omega
  clear hy1 hr1 hB11
  go_wp2_with fail
  refine (C4.out w11 HB11.out).mono ?_
  rintro e w12 ⟨A2, c2, y2s, rfl, hy2, _, _, ha2, hB12⟩
  have HB12 := Lib.hid (HB11.out.trans (hB12.mono HB11.out.size))
  have S := Lib.hid (same_any A1 y1s.length c1 y1s A2 y2s.length c2 y2s w12 (HA1.out.below hB12) ha2 (HY1.out.trans hy2.symm) (by omega))
  clear hy2 ha2 hB12
  go_wp2_with fail
  refine S.out.mono ?_
  rintro e w13 ⟨rfl, hB13⟩
  have HB13 := Lib.hid (HB12.out.trans (hB13.mono HB12.out.size))
  clear hB13 S
  go_wp2_with fail
  refine (C5.out w13 HB13.out).mono ?_
  rintro e w14 ⟨rfl, hB14⟩
  have HB14 := Lib.hid (HB13.out.trans (hB14.mono HB13.out.size))
  clear hB14
  go_wp2_with fail
  refine (C6.out w14 HB14.out).mono ?_
  rintro e w15 ⟨rfl, hB15⟩
  have HB15 := Lib.hid (HB14.out.trans (hB15.mono HB14.out.size))
  have tc : (ck == ck) = true := by simp
  clear hB15
  go_wp2_with fail
  refine (CL.out w15 HB15.out).mono ?_
  rintro e w16 ⟨rfl, hB16⟩
  go_wp2
  go_ret
  exact ⟨rfl, HB15.out.trans (hB16.mono HB15.out.size)⟩
set_option maxRecDepth 100000 in
set_option maxHeartbeats 4000000 in
theorem oracleFinds_any (A : Option Addr) (n c : Nat) (l : List An) (id : ByteArray) (w : World) (m : Int) (hl : AnsAt w A n l) (hm : w.cell? ⟨0, 0, none⟩ = some (.int .i64 m)) (hn : n ≤ 9223372036854775807) :
    Calls Tryd.prog 3 #[.slice A n c, .string id] w (BelB true w) := by
  have G := great23_any A n c l w hn hl
  have CL := Lib.hid (live23_any w m hm)
  cases hg : greatA l with
  | true =>
    rw [hg] at G
    have G := Lib.hid G
    clear hl hm hg
    go_enter Tryd.func3, Tryd.ntmps3
    go_wp2_with fail
    refine G.out.mono ?_
    rintro e w1 ⟨rfl, rfl⟩
    go_wp2_with fail
    refine CL.out.mono ?_
    rintro e w16 ⟨rfl, hB16⟩
    go_wp2
    go_ret
    exact ⟨rfl, hB16⟩
  | false =>
    by_cases hid : id.size ≤ 200
    · exact oracleFinds_in A n c l id w m hl hm hn hg hid
    · rw [hg] at G
      have G := Lib.hid G
      have t0 : (200 : Int) < (id.size : Int) := by omega
      clear hl hm hg hid
      go_enter Tryd.func3, Tryd.ntmps3
      go_wp2_with fail
      refine G.out.mono ?_
      rintro e w1 ⟨rfl, rfl⟩
      go_wp2_with fail
      refine CL.out.mono ?_
      rintro e w16 ⟨rfl, hB16⟩
      go_wp2
      go_ret
      exact ⟨rfl, hB16⟩
end Go.Proofs.YtkpefendeonemaaDoor
