/- The contract of narthexref42.Path. Conditions: at most 2^20 events. -/
import Derived.Test.YtlifdmehejehjaaDoorRowStep
import Derived.Test.YtlifdmehejehjaaDoorDiffRows
namespace Go.Proofs.YtlifdmehejehjaaDoor
open Go.RowKit
def TellStrs (p : List ByteArray) (w : World) (e : Ending) (w' : World) : Prop :=
  ∃ A c, e = .returned (.slice A p.length c) ∧ StrsAt w' A p.length p ∧ Below w.heap.size w w'
theorem str_one {l : List ByteArray} : ∀ u ∈ strCells l, u.oneCell' = true := by
  intro u hu; unfold strCells at hu; obtain ⟨s, _, rfl⟩ := List.mem_map.1 hu; rfl
theorem own_addr_lt {w : World} {base n c : Nat} {e : TypeId} {A : Option Addr} {xs : List Value} (h : w.ownsRow base e 1 (.slice A n c) n xs) : ∀ ad, A = some ad → ad.block < w.heap.size := fun ad hA => by subst hA; exact (h.lt _ rfl).2
theorem fresh_row {W0 W1 w2 : World} {v v2 : Value} {g0 : Nat} (D : Below W0.heap.size W0 W1) (hv : v.ownBlock = some g0) (hg0 : W0.heap.size ≤ g0) (hg : W1.grownBy w2 v.ownBlock)
    (hb : v2.ownBlock = v.ownBlock ∨ v2.ownBlock = some W1.heap.size) : Below W0.heap.size W0 w2 ∧ ∀ g, v2.ownBlock = some g → W0.heap.size ≤ g := by
  refine ⟨D.grown hg D.size (fun g h => by rw [hv] at h; cases h; exact hg0), fun g h => ?_⟩
  rcases hb with hb | hb
  · rw [hb, hv] at h; cases h; exact hg0
  · rw [hb] at h; cases h; exact D.size
theorem far_own {X : Addr} {v : Value} {B : Nat} (h : ∀ g, v.ownBlock = some g → B ≤ g) (hX : X.block < B) : some X.block ≠ v.ownBlock := fun heq => by have := h _ heq.symm; omega
theorem Source.other {w w' : World} {g g' m c : Nat} {news : List Value} {v : Value} (h : Source w (some ⟨g, 0, none⟩) m c news) (hg : w.grownBy w' v.ownBlock) (hv : v.ownBlock = some g') (hne : g ≠ g') : Source w' (some ⟨g, 0, none⟩) m c news :=
  h.grown hg (fun ad hA => by cases hA; rw [hv]; simpa using hne)
theorem empty_own' (w : World) (base g : Nat) (t : TypeId) (hb : base ≤ w.heap.size) (hg : g = w.heap.size) : (w.alloc (.cells #[] t)).ownsRow base t 1 (.slice (some ⟨g, 0, none⟩) 0 0) 0 [] := by subst hg; exact empty_own w base t hb
theorem Source.lit' (w : World) (g : Nat) (x : Value) (t : TypeId) (hg : g = w.heap.size) : Source (w.alloc (.cells #[x] t)) (some ⟨g, 0, none⟩) 1 1 [x] := by subst hg; exact Source.lit w x t
theorem alloc_size (w : World) (o : Obj) : w.heap.size + 1 = (w.alloc o).heap.size := by simp
theorem alloc_lt (w : World) (o : Obj) : w.heap.size < (w.alloc o).heap.size := by simp
set_option maxRecDepth 100000 in
set_option maxHeartbeats 4000000 in
theorem rpath_any (A : Option Addr) (n c : Nat) (l : List Ev) (k0 : Nat) (w : World) (hl : EvsAt w A n l) (hn : n ≤ 1048576) (hk : k0 ≤ n) :
    Calls Tryd.prog 34 #[.slice A n c, .int .i64 k0] w (TellStrs (pathP (l.take k0)) w) := by
  obtain ⟨i0, hi0, hz0, hz1, hz2⟩ := info_parts Tryd.infoStr
  have L := Lib.hid hl
  clear hl
  go_enter Tryd.func34, Tryd.ntmps34
  go_wp2
  go_loopw [5, 6] (fun v i wr => ∃ (k : Nat), k ≤ k0 ∧ i = .int .i64 k ∧ Hid (wr.ownsRow w.heap.size 9 1 v (pathP (l.take k)).length (strCells (pathP (l.take k)))) ∧ Hid (Below w.heap.size w wr)) (fun _ i _ => k0 - (intOf i).toNat)
  case atStart => exact ⟨0, by omega, rfl, World.ownsRow_nil _ _ _ _, Below.refl _ _⟩
  case round =>
    obtain ⟨k, hk', rfl, HO, HB⟩ := hrel
    by_cases hlt : k < k0
    · obtain ⟨a, e, hA, hx, he, hok⟩ := L.out.2 k (by omega)
      subst hA
      have b0 : (0 : Int) ≤ (k : Int) := by omega
      have b1 : (k : Int) < (k0 : Int) := by omega
      have b2 : (k : Int) < (n : Int) := by omega
      have hT := pathP_succ l k e hx
      have hpl := pathP_len l k
      obtain ⟨hXb, g0, g1, g2, g3, g4⟩ := he.below HB.out he.1
      obtain ⟨A2, c2, hv⟩ := ownRow_shape HO.out
      subst hv
      obtain ⟨hc1, hc2, _⟩ := ownRow_cap HO.out
      generalize pathP (l.take k) = p at *
      have T := Lib.hid hT
      have EV := Lib.hid he
      clear hT hx he hok
      by_cases h1 : e.k = 1
      · have e1 : stepP p e = p ++ [e.lo] := by unfold stepP; rw [if_pos h1]
        have T1 := Lib.hid (T.out.trans e1)
        have q1 : (e.k == 1) = true := by simpa using h1
        have q2 : (e.k == 2) = false := by rw [h1]; rfl
        clear h1 e1 T
        have hsz : w.heap.size ≤ wr.heap.size := HB.out.size
        have HO0 := Lib.hid (ownRow_below HO.out (below_drew _ wr))
        have HB0 := Lib.hid (HB.out.trans (below_drew _ wr))
        have SRC := Lib.hid (Source.of_own HO0.out)
        have SLT := Lib.hid (own_addr_lt HO0.out)
        have cc : ∀ w', Below wr.drew.heap.size wr.drew w' → w'.cell? ⟨(a.add (k * 5)).block, (a.add (k * 5)).off + 2, none⟩ = some (.string e.lo) := fun w' hb => (hb.cell (p := ⟨(a.add (k * 5)).block, (a.add (k * 5)).off + 2, none⟩) hXb).trans g2
        have CC := Lib.hid cc
        have d0 := Below.refl wr.drew.heap.size wr.drew
        have x0 := cc wr.drew d0
        have d1 := d0.alloc (Nat.le_refl _) (.cells #[] 9)
        have d2 := d0.alloc (Nat.le_refl _) (.cells #[.string e.lo] 9)
        have d3 := d1.alloc (by simp) (.cells #[.string e.lo] 9)
        have d4 := d2.alloc (by simp) (.cells #[] 9)
        have x1 := cc _ d1
        have x2 := cc _ d2
        have x3 := cc _ d3
        have x4 := cc _ d4
        have D1 := Lib.hid d1
        have D3 := Lib.hid d3
        have D4 := Lib.hid d4
        have P1 := Lib.hid (SRC.out.below SLT.out d1)
        have P3 := Lib.hid (SRC.out.below SLT.out d3)
        have P4 := Lib.hid (SRC.out.below SLT.out d4)
        have O1 := Lib.hid (empty_own wr.drew w.heap.size 9 hsz)
        have O3 := Lib.hid (O1.out.alloc (.cells #[.string e.lo] 9))
        have O4 := Lib.hid (empty_own' (wr.drew.alloc (.cells #[.string e.lo] 9)) w.heap.size (wr.heap.size + 1) 9 (by simp; omega) (alloc_size wr.drew _))
        have lp : (strCells p).length = p.length := by simp [strCells]
        have bm : 0 + p.length ≤ maxLen := by unfold maxLen; omega
        have by16 : (0 + p.length) * 16 ≤ 140737488355328 := by omega
        have bm1 : 0 + p.length + 1 ≤ maxLen := by unfold maxLen; omega
        have by17 : (0 + p.length + 1) * 16 ≤ 140737488355328 := by omega
        have LP := Lib.hid lp
        have HX := Lib.hid hXb
        clear cc d0 d1 d2 d3 d4 lp hXb
        go_wp2_with fail
        go_region_held3 (fun w' => w'.cell? ⟨(a.add (k * 5)).block, (a.add (k * 5)).off + 2, none⟩ = some (.string e.lo)) (first | exact y2 | exact y1 | exact y0 | exact x1 | exact x2 | exact x3 | exact x4 | exact x0)
          (first
          | (refine step_own (by rfl) (.tmp 20) (.tmp 27) 23 (by rfl) w.heap.size 9 i0 (.string ⟨#[]⟩) 16 Tryd.underlying23 hi0 hz0 hz1 hz2 (by rfl) v2 (0 + p.length) ([] ++ strCells p) (by rfl) HO9.out _ 1 1 [.string e.lo] (by rfl) rfl HS9.out (by intro u hu; simp at hu; subst hu; rfl) bm1 by17 hsz9 ?_
             intro v3 w3 ho3 hg3 _
             have y2 := hg3.cell y1 (far_own HV9.out HX.out)
             have B9 := Lib.hid (HB9.out.grown hg3 hsz9 (fun g hg => (HO9.out.lt g hg).1)))
          | (refine step_own (by rfl) (.tmp 18) (.tmp 19) 23 (by rfl) w.heap.size 9 i0 (.string ⟨#[]⟩) 16 Tryd.underlying23 hi0 hz0 hz1 hz2 (by rfl) _ 0 [] (by rfl) O1.out A2 p.length c2 (strCells p) (by rfl) LP.out P1.out str_one bm by16 (Nat.le_trans hsz D1.out.size) ?_
             intro v2 w2 ho2 hg2 hb2
             obtain ⟨DB2, hv9⟩ := fresh_row D1.out rfl (Nat.le_refl _) hg2 hb2
             have HV9 := Lib.hid hv9
             have y0 := CC.out w2 DB2
             clear hv9 hb2
             have y1 := CC.out (w2.alloc (.cells #[.string e.lo] 9)) (DB2.alloc DB2.size _)
             have HB9 := Lib.hid (HB0.out.trans ((DB2.alloc DB2.size (.cells #[.string e.lo] 9)).mono hsz))
             have hsz9 := HB9.out.size
             have HO9 := Lib.hid (ho2.alloc (.cells #[.string e.lo] 9))
             have HS9 := Lib.hid (Source.lit w2 (.string e.lo) 9))
          | (refine step_own (by rfl) (.tmp 18) (.tmp 19) 23 (by rfl) w.heap.size 9 i0 (.string ⟨#[]⟩) 16 Tryd.underlying23 hi0 hz0 hz1 hz2 (by rfl) _ 0 [] (by rfl) O3.out A2 p.length c2 (strCells p) (by rfl) LP.out P3.out str_one bm by16 (Nat.le_trans hsz D3.out.size) ?_
             intro v2 w2 ho2 hg2 hb2
             obtain ⟨DB2, hv9⟩ := fresh_row D3.out rfl (Nat.le_refl _) hg2 hb2
             have HV9 := Lib.hid hv9
             have y0 := CC.out w2 DB2
             clear hv9 hb2
             have y1 := y0
             have HB9 := Lib.hid (HB0.out.trans (DB2.mono hsz))
             have hsz9 := HB9.out.size
             have HO9 := Lib.hid ho2
             have HS9 := Lib.hid ((Source.lit' (wr.drew.alloc (.cells #[] 9)) (wr.heap.size + 1) (.string e.lo) 9 (alloc_size wr.drew _)).other hg2 rfl (Nat.succ_ne_self _)))
          | (refine step_own (by rfl) (.tmp 18) (.tmp 19) 23 (by rfl) w.heap.size 9 i0 (.string ⟨#[]⟩) 16 Tryd.underlying23 hi0 hz0 hz1 hz2 (by rfl) _ 0 [] (by rfl) O4.out A2 p.length c2 (strCells p) (by rfl) LP.out P4.out str_one bm by16 (Nat.le_trans hsz D4.out.size) ?_
             intro v2 w2 ho2 hg2 hb2
             obtain ⟨DB2, hv9⟩ := fresh_row D4.out rfl (Nat.le_succ _) hg2 hb2
             have HV9 := Lib.hid hv9
             have y0 := CC.out w2 DB2
             clear hv9 hb2
             have y1 := y0
             have HB9 := Lib.hid (HB0.out.trans (DB2.mono hsz))
             have hsz9 := HB9.out.size
             have HO9 := Lib.hid ho2
             have HS9 := Lib.hid (((Source.lit wr.drew (.string e.lo) 9).below (fun ad hA => by cases hA; exact alloc_lt _ _) ((Below.refl _ _).alloc (Nat.le_refl _) (.cells #[] 9))).other hg2 rfl (Nat.ne_of_lt (Nat.lt_succ_self _)))))
        all_goals
          clear HO9 HS9 HV9 HB9 y0 y1 y2 DB2
          obtain ⟨_, j0, _⟩ := EV.out.below B9.out EV.out.1
          go_wp2
          go_roundw
          case rel =>
            refine ⟨k + 1, by omega, by go_num, ?_, B9⟩
            show World.ownsRow _ _ _ _ _ _ _
            rw [T1.out, List.length_append, show strCells (p ++ [e.lo]) = strCells p ++ [.string e.lo] by unfold strCells; simp]
            simpa using ho3
          case measure => simp [intOf]; omega
      · have q1 : (e.k == 1) = false := by simpa using h1
        by_cases h2 : e.k = 2
        · have q2 : (e.k == 2) = true := by simpa using h2
          have e1 : stepP p e = p.dropLast := by unfold stepP; rw [if_neg h1, if_pos h2]
          have T1 := Lib.hid (T.out.trans e1)
          clear h1 h2 e1 T
          rcases List.eq_nil_or_concat p with rfl | ⟨q, x, rfl⟩
          · go_wp2
            go_roundw
            case rel => exact ⟨k + 1, by omega, by go_num, by show World.ownsRow _ _ _ _ _ _ _; rw [T1.out]; exact HO.out, HB⟩
            case measure => simp [intOf]; omega
          · have hq : (q ++ [x]).length = q.length + 1 := by simp
            simp only [List.concat_eq_append] at *
            have HO2 := HO.out
            rw [hq] at HO2 hc1 hpl
            obtain ⟨g, rfl⟩ : ∃ g, A2 = some ⟨g, 0, none⟩ := by
              rcases HO2.2 with ⟨h, h'⟩ | ⟨g, cap, cur, h, _⟩
              · omega
              · cases h; exact ⟨g, rfl⟩
            have HP := Lib.hid (ownsRow_pop (size := 1) (n := q.length) (xs := strCells q) (last := [.string x]) (by simp [strCells]) (by rw [show strCells q ++ [.string x] = strCells (q ++ [x]) by simp [strCells]]; exact HO2))
            clear HO2 HO
            simp only [hq]
            go_wp2
            go_roundw
            case rel => exact ⟨k + 1, by omega, by go_num, by show World.ownsRow _ _ _ _ _ _ _; rw [T1.out, List.dropLast_concat]; exact HP.out, HB⟩
            case measure => simp [intOf]; omega
        · have q2 : (e.k == 2) = false := by simpa using h2
          have e1 : stepP p e = p := by unfold stepP; rw [if_neg h1, if_neg h2]
          have T1 := Lib.hid (T.out.trans e1)
          clear h1 h2 e1 T
          go_wp2
          go_roundw
          case rel => exact ⟨k + 1, by omega, by go_num, by show World.ownsRow _ _ _ _ _ _ _; rw [T1.out]; exact HO.out, HB⟩
          case measure => simp [intOf]; omega
    · obtain rfl : k = k0 := by omega
      obtain ⟨A2, c2, hv⟩ := ownRow_shape HO.out
      subst hv
      go_wp2
      go_ret
      exact ⟨A2, c2, rfl, StrsAt.of_own HO.out, HB.out⟩
end Go.Proofs.YtlifdmehejehjaaDoor
