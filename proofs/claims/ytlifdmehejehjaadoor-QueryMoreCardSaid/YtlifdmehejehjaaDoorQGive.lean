/- The contracts of give and of the reference's Great. Conditions: at most 2^40 steps. -/
import Derived.Test.YtlifdmehejehjaaDoorQMem
import Derived.Test.YtlifdmehejehjaaDoorStepRow
import Derived.IntWalk
namespace Go.Proofs.YtlifdmehejehjaaDoor
open Go.RowKit Go.Proofs.YtlifdmehejehjaaDoor.QPlain
set_option linter.unusedVariables false
set_option linter.unusedSimpArgs false
theorem Tryd.infoStep : (Tryd.prog.info? 35).map (fun i => (i.zero, i.size, i.bytes)) = some (some (.agg #[.bool false, .bool false, .string ⟨#[]⟩]), 3, 24) := by kernel_rfl
def RetSteps (T : TypeId) (l : List StN) (w : World) (e : Ending) (w' : World) : Prop := ∃ A c, e = .returned (.slice A l.length c) ∧ l.length ≤ c ∧ c ≤ 9223372036854775807 ∧ w'.ownsRow w.heap.size T 3 (.slice A l.length c) l.length (stCells l) ∧ Below w.heap.size w w'
theorem own_capQ {w : World} {base size n c : Nat} {e : TypeId} {A : Option Addr} {xs : List Value} (h : w.ownsRow base e size (.slice A n c) n xs) : n ≤ c ∧ c ≤ 9223372036854775807 := by
  rcases h.2 with ⟨h1, h2⟩ | ⟨g, cap, cur, hv, _, _, h3, h4, _⟩
  · cases h1; exact ⟨Nat.le_refl _, by omega⟩
  · cases hv; unfold maxLen at h4; exact ⟨h3, h4⟩
theorem own_shapeQ {w : World} {base size n : Nat} {e : TypeId} {v : Value} {xs : List Value} (h : w.ownsRow base e size v n xs) : ∃ A c, v = .slice A n c := by
  rcases h.2 with ⟨h1, h2⟩ | ⟨g, cap, _, h1, _⟩
  · subst h2; exact ⟨_, _, h1⟩
  · exact ⟨_, _, h1⟩
set_option maxRecDepth 100000 in
set_option maxHeartbeats 4000000 in
theorem give_any (A : Option Addr) (n cp : Nat) (l : List StN) (w : World) (hn : n ≤ 1099511627776) (hs : StsAt w A n l) :
    Calls Tryd.prog 10 #[.slice A n cp] w (RetSteps 35 l w) := by
  obtain ⟨i0, hi0, hz0, hz1, hz2⟩ := info_parts Tryd.infoStep
  have HS := Lib.hid hs
  have HL := Lib.hid hs.1
  clear hs
  go_enter Tryd.func10, Tryd.ntmps10
  go_wp2
  go_loopw [3, 4] (fun v3 v4 wr => ∃ (k : Nat) (v : Value), v = v3 ∧ k ≤ n ∧ v4 = .int .i64 k ∧ Hid (wr.ownsRow w.heap.size 35 3 v k (stCells (l.take k))) ∧ Hid (Below w.heap.size w wr)) (fun _ v4 _ => n - (intOf v4).toNat)
  case atStart => exact ⟨0, _, rfl, Nat.zero_le _, rfl, World.ownsRow_nil _ _ _ _, Below.refl _ _⟩
  case round =>
    obtain ⟨k, v, rfl, hk, rfl, HO, HB⟩ := hrel
    by_cases hlt : k < n
    · obtain ⟨a, x, rfl, hx, hal, h0, h1, h2⟩ := (HS.out.below HB.out).2 k hlt
      have e0 : (0 : Int) ≤ (k : Int) := by omega
      have e1 : (k : Int) < (n : Int) := by omega
      have htk : Hid (stCells (l.take (k + 1)) = stCells (l.take k) ++ [.bool x.any, .bool x.deep, .string x.nm]) := by
        show _ = _
        rw [List.take_add_one, hx, stCells_append]; rfl
      have hal2 : (a.add (k * 3)).block < wr.heap.size := by rw [addBlock]; exact hal
      have halw : (a.add (k * 3)).block < w.heap.size := by
        obtain ⟨a2, x2, ha2, -, hl2, -⟩ := HS.out.2 k hlt
        cases ha2
        rw [addBlock]; exact hl2
      obtain ⟨U, hU⟩ : ∃ U, U = (wr.alloc (.cells #[.bool x.any, .bool x.deep, .string x.nm] 35)).drew := ⟨_, rfl⟩
      have hbU : Below wr.heap.size wr U := by rw [hU]; exact ((Below.refl _ _).alloc (Nat.le_refl _) _).drew
      have y0 := (hbU.cell (p := a.add (k * 3)) hal2).trans h0
      have y1 := (hbU.cell (p := ⟨(a.add (k * 3)).block, (a.add (k * 3)).off + 1, none⟩) hal2).trans h1
      have y2 := (hbU.cell (p := ⟨(a.add (k * 3)).block, (a.add (k * 3)).off + 2, none⟩) hal2).trans h2
      have ho : U.ownsRow w.heap.size 35 3 v k (stCells (l.take k)) := by rw [hU]; exact (HO.out.alloc _).drew
      have hn3 : ∀ j u, [Value.bool x.any, .bool x.deep, .string x.nm][j]? = some u → U.cell? ((⟨wr.heap.size, 0, none⟩ : Addr).add j) = some u := by
        rw [hU]
        exact rowCell3 wr (.bool x.any) (.bool x.deep) (.string x.nm) 35
      have hsz : w.heap.size ≤ U.heap.size := (HB.out.trans (hbU.mono HB.out.size)).size
      have HBU := Lib.hid (HB.out.trans (hbU.mono HB.out.size))
      have HOU := Lib.hid ho
      have HUU := Lib.hid hU
      have HN3 := Lib.hid hn3
      have hfar : ∀ g, v.ownBlock = some g → (a.add (k * 3)).block ≠ g := fun g hg => by have := (ho.lt g hg).1; omega
      have HFAR := Lib.hid hfar
      have HY := Lib.hid (show U.cell? (a.add (k * 3)) = some (.bool x.any) ∧ U.cell? ⟨(a.add (k * 3)).block, (a.add (k * 3)).off + 1, none⟩ = some (.bool x.deep) ∧ U.cell? ⟨(a.add (k * 3)).block, (a.add (k * 3)).off + 2, none⟩ = some (.string x.nm) from ⟨y0, y1, y2⟩)
      clear hU hbU ho hn3 hfar hx y0 y1 y2
      go_wp2
      refine wp_region_held_drew (S := (fun w' => w'.cell? (a.add (k * 3)) = some (.bool x.any) ∧ w'.cell? ⟨(a.add (k * 3)).block, (a.add (k * 3)).off + 1, none⟩ = some (.bool x.deep) ∧ w'.cell? ⟨(a.add (k * 3)).block, (a.add (k * 3)).off + 2, none⟩ = some (.string x.nm))) (by kernel_rfl) ⟨h0, h1, h2⟩ (fun hHeld => ?_)
      --TAKES narthex/narthexlaw47.give:5 0..16
      refine wpAnyH_take (i := 0) (oi := ({ dst := some 11, op := Op.move (Operand.tmp 3), type := 27, pos := "law.go:17", after := #[], guard := none } : Oper)) (v := ?_) rfl (by kernel_rfl) (by kernel_rfl) (by kernel_rfl) (fun _ _ _ h => h) (Or.inl ⟨by rfl, ?_⟩) (by assumption) ?_
      rotate_left 1
      · intro w hSw; (try dsimp only at hSw); go_simp; try with_reducible rfl
      (try simp only [Act.put, List.setIfInBounds_toArray, List.set_cons_zero, List.set_cons_succ])
      refine wpAnyH_take (i := 1) (oi := ({ dst := some 12, op := Op.move (Operand.tmp 0), type := 22, pos := "law.go:17", after := #[], guard := none } : Oper)) (v := ?_) rfl (by kernel_rfl) (by kernel_rfl) (by kernel_rfl) (fun _ _ _ h => h) (Or.inl ⟨by rfl, ?_⟩) (by assumption) ?_
      rotate_left 1
      · intro w hSw; (try dsimp only at hSw); go_simp; try with_reducible rfl
      (try simp only [Act.put, List.setIfInBounds_toArray, List.set_cons_zero, List.set_cons_succ])
      refine wpAnyH_take (i := 2) (oi := ({ dst := some 13, op := Op.move (Operand.tmp 4), type := 3, pos := "law.go:17", after := #[], guard := none } : Oper)) (v := ?_) rfl (by kernel_rfl) (by kernel_rfl) (by kernel_rfl) (fun _ _ _ h => h) (Or.inl ⟨by rfl, ?_⟩) (by assumption) ?_
      rotate_left 1
      · intro w hSw; (try dsimp only at hSw); go_simp; try with_reducible rfl
      (try simp only [Act.put, List.setIfInBounds_toArray, List.set_cons_zero, List.set_cons_succ])
      refine wpAnyH_take (i := 3) (oi := ({ dst := some 14, op := Op.indexAddr 22 (Operand.tmp 12) (Operand.tmp 13), type := 0, pos := "law.go:17", after := #[{ on := 1, ground := Ground.data }, { on := 2, ground := Ground.data }], guard := none } : Oper)) (v := ?_) rfl (by kernel_rfl) (by kernel_rfl) (by kernel_rfl) (fun _ _ _ h => h) (Or.inl ⟨by rfl, ?_⟩) (by assumption) ?_
      rotate_left 1
      · intro w hSw; (try dsimp only at hSw); go_simp; try with_reducible rfl
      (try simp only [Act.put, List.setIfInBounds_toArray, List.set_cons_zero, List.set_cons_succ])
      refine wpAnyH_take (i := 4) (oi := ({ dst := some 15, op := Op.fieldAddr 47 (Operand.tmp 14) 0, type := 0, pos := "law.go:17", after := #[{ on := 3, ground := Ground.data }], guard := none } : Oper)) (v := ?_) rfl (by kernel_rfl) (by kernel_rfl) (by kernel_rfl) (fun _ _ _ h => h) (Or.inl ⟨by rfl, ?_⟩) (by assumption) ?_
      rotate_left 1
      · intro w hSw; (try dsimp only at hSw); go_simp; try with_reducible rfl
      (try simp only [Act.put, List.setIfInBounds_toArray, List.set_cons_zero, List.set_cons_succ])
      refine wpAnyH_take (i := 5) (oi := ({ dst := some 16, op := Op.load 4 (Operand.tmp 15), type := 4, pos := "law.go:17", after := #[{ on := 4, ground := Ground.data }], guard := none } : Oper)) (v := ?_) rfl (by kernel_rfl) (by kernel_rfl) (by kernel_rfl) (fun _ _ _ h => h) (Or.inl ⟨by rfl, ?_⟩) (by assumption) ?_
      rotate_left 1
      · intro w hSw; (try dsimp only at hSw); go_simp; try with_reducible rfl
      (try simp only [Act.put, List.setIfInBounds_toArray, List.set_cons_zero, List.set_cons_succ])
      refine wpAnyH_take (i := 6) (oi := ({ dst := some 17, op := Op.move (Operand.tmp 0), type := 22, pos := "law.go:17", after := #[], guard := none } : Oper)) (v := ?_) rfl (by kernel_rfl) (by kernel_rfl) (by kernel_rfl) (fun _ _ _ h => h) (Or.inl ⟨by rfl, ?_⟩) (by assumption) ?_
      rotate_left 1
      · intro w hSw; (try dsimp only at hSw); go_simp; try with_reducible rfl
      (try simp only [Act.put, List.setIfInBounds_toArray, List.set_cons_zero, List.set_cons_succ])
      refine wpAnyH_take (i := 7) (oi := ({ dst := some 18, op := Op.move (Operand.tmp 4), type := 3, pos := "law.go:17", after := #[], guard := none } : Oper)) (v := ?_) rfl (by kernel_rfl) (by kernel_rfl) (by kernel_rfl) (fun _ _ _ h => h) (Or.inl ⟨by rfl, ?_⟩) (by assumption) ?_
      rotate_left 1
      · intro w hSw; (try dsimp only at hSw); go_simp; try with_reducible rfl
      (try simp only [Act.put, List.setIfInBounds_toArray, List.set_cons_zero, List.set_cons_succ])
      refine wpAnyH_take (i := 8) (oi := ({ dst := some 19, op := Op.indexAddr 22 (Operand.tmp 17) (Operand.tmp 18), type := 0, pos := "law.go:17", after := #[{ on := 6, ground := Ground.data }, { on := 7, ground := Ground.data }], guard := none } : Oper)) (v := ?_) rfl (by kernel_rfl) (by kernel_rfl) (by kernel_rfl) (fun _ _ _ h => h) (Or.inl ⟨by rfl, ?_⟩) (by assumption) ?_
      rotate_left 1
      · intro w hSw; (try dsimp only at hSw); go_simp; try with_reducible rfl
      (try simp only [Act.put, List.setIfInBounds_toArray, List.set_cons_zero, List.set_cons_succ])
      refine wpAnyH_take (i := 9) (oi := ({ dst := some 20, op := Op.fieldAddr 47 (Operand.tmp 19) 1, type := 0, pos := "law.go:17", after := #[{ on := 8, ground := Ground.data }], guard := none } : Oper)) (v := ?_) rfl (by kernel_rfl) (by kernel_rfl) (by kernel_rfl) (fun _ _ _ h => h) (Or.inl ⟨by rfl, ?_⟩) (by assumption) ?_
      rotate_left 1
      · intro w hSw; (try dsimp only at hSw); go_simp; try with_reducible rfl
      (try simp only [Act.put, List.setIfInBounds_toArray, List.set_cons_zero, List.set_cons_succ])
      refine wpAnyH_take (i := 10) (oi := ({ dst := some 21, op := Op.load 4 (Operand.tmp 20), type := 4, pos := "law.go:17", after := #[{ on := 9, ground := Ground.data }], guard := none } : Oper)) (v := ?_) rfl (by kernel_rfl) (by kernel_rfl) (by kernel_rfl) (fun _ _ _ h => h) (Or.inl ⟨by rfl, ?_⟩) (by assumption) ?_
      rotate_left 1
      · intro w hSw; (try dsimp only at hSw); go_simp; try with_reducible rfl
      (try simp only [Act.put, List.setIfInBounds_toArray, List.set_cons_zero, List.set_cons_succ])
      refine wpAnyH_take (i := 11) (oi := ({ dst := some 22, op := Op.move (Operand.tmp 0), type := 22, pos := "law.go:17", after := #[], guard := none } : Oper)) (v := ?_) rfl (by kernel_rfl) (by kernel_rfl) (by kernel_rfl) (fun _ _ _ h => h) (Or.inl ⟨by rfl, ?_⟩) (by assumption) ?_
      rotate_left 1
      · intro w hSw; (try dsimp only at hSw); go_simp; try with_reducible rfl
      (try simp only [Act.put, List.setIfInBounds_toArray, List.set_cons_zero, List.set_cons_succ])
      refine wpAnyH_take (i := 12) (oi := ({ dst := some 23, op := Op.move (Operand.tmp 4), type := 3, pos := "law.go:17", after := #[], guard := none } : Oper)) (v := ?_) rfl (by kernel_rfl) (by kernel_rfl) (by kernel_rfl) (fun _ _ _ h => h) (Or.inl ⟨by rfl, ?_⟩) (by assumption) ?_
      rotate_left 1
      · intro w hSw; (try dsimp only at hSw); go_simp; try with_reducible rfl
      (try simp only [Act.put, List.setIfInBounds_toArray, List.set_cons_zero, List.set_cons_succ])
      refine wpAnyH_take (i := 13) (oi := ({ dst := some 24, op := Op.indexAddr 22 (Operand.tmp 22) (Operand.tmp 23), type := 0, pos := "law.go:17", after := #[{ on := 11, ground := Ground.data }, { on := 12, ground := Ground.data }], guard := none } : Oper)) (v := ?_) rfl (by kernel_rfl) (by kernel_rfl) (by kernel_rfl) (fun _ _ _ h => h) (Or.inl ⟨by rfl, ?_⟩) (by assumption) ?_
      rotate_left 1
      · intro w hSw; (try dsimp only at hSw); go_simp; try with_reducible rfl
      (try simp only [Act.put, List.setIfInBounds_toArray, List.set_cons_zero, List.set_cons_succ])
      refine wpAnyH_take (i := 14) (oi := ({ dst := some 25, op := Op.fieldAddr 47 (Operand.tmp 24) 2, type := 0, pos := "law.go:17", after := #[{ on := 13, ground := Ground.data }], guard := none } : Oper)) (v := ?_) rfl (by kernel_rfl) (by kernel_rfl) (by kernel_rfl) (fun _ _ _ h => h) (Or.inl ⟨by rfl, ?_⟩) (by assumption) ?_
      rotate_left 1
      · intro w hSw; (try dsimp only at hSw); go_simp; try with_reducible rfl
      (try simp only [Act.put, List.setIfInBounds_toArray, List.set_cons_zero, List.set_cons_succ])
      refine wpAnyH_take (i := 15) (oi := ({ dst := some 26, op := Op.load 9 (Operand.tmp 25), type := 9, pos := "law.go:17", after := #[{ on := 14, ground := Ground.data }], guard := none } : Oper)) (v := ?_) rfl (by kernel_rfl) (by kernel_rfl) (by kernel_rfl) (fun _ _ _ h => h) (Or.inl ⟨by rfl, ?_⟩) (by assumption) ?_
      rotate_left 1
      · intro w hSw; (try dsimp only at hSw); go_simp; try with_reducible rfl
      (try simp only [Act.put, List.setIfInBounds_toArray, List.set_cons_zero, List.set_cons_succ])
      refine wpAnyH_take (i := 16) (oi := ({ dst := some 27, op := Op.build 35 #[(0, Operand.tmp 16), (1, Operand.tmp 21), (2, Operand.tmp 26)], type := 35, pos := "law.go:17", after := #[{ on := 5, ground := Ground.data }, { on := 10, ground := Ground.data }, { on := 15, ground := Ground.data }], guard := none } : Oper)) (v := ?_) rfl (by kernel_rfl) (by kernel_rfl) (by kernel_rfl) (fun _ _ _ h => h) (Or.inl ⟨by rfl, ?_⟩) (by assumption) ?_
      rotate_left 1
      · intro w hSw; (try dsimp only at hSw); go_simp; try with_reducible rfl
      (try simp only [Act.put, List.setIfInBounds_toArray, List.set_cons_zero, List.set_cons_succ])
      --END
      refine wpAnyH_ready (rs := [17]) (by kernel_rfl) (by simp) ?_
      refine AllReadyH.cons (o := _) rfl (fun K hK => ?_) AllReadyH.nil
      go_simp
      rw [← HUU.out]
      refine hK.out _ _ HY.out (fun _ => ?_)
      clear hK K
      (try simp only [Act.put, List.setIfInBounds_toArray, List.set_cons_zero, List.set_cons_succ])
      refine wpAnyH_ready (rs := [18]) (by kernel_rfl) (by simp) ?_
      refine AllReadyH.cons (o := _) rfl (fun K hK => ?_) AllReadyH.nil
      refine stepRow (by rfl) (.tmp 11) (.tmp 28) 27 (by rfl) w.heap.size 35 i0 (.agg #[.bool false, .bool false, .string ⟨#[]⟩]) 3 24 Tryd.underlying27 hi0 hz0 hz1 hz2 (by rfl) (by omega) v k (stCells (l.take k)) (by rfl) HOU.out _ 1 1 [.bool x.any, .bool x.deep, .string x.nm] (by rfl) rfl HN3.out (by intro u hu; simp at hu; rcases hu with rfl | rfl | rfl <;> rfl) (by unfold maxLen; omega) (by omega) hsz ?_
      intro v3 w3 ho3 hg3 hb3
      have hne : some (a.add (k * 3)).block ≠ v.ownBlock := fun e => HFAR.out _ e.symm rfl
      refine hK.out _ _ ⟨hg3.cell HY.out.1 hne, hg3.cell (a := ⟨(a.add (k * 3)).block, (a.add (k * 3)).off + 1, none⟩) HY.out.2.1 hne, hg3.cell (a := ⟨(a.add (k * 3)).block, (a.add (k * 3)).off + 2, none⟩) HY.out.2.2 hne⟩ (fun _ => ?_)
      clear hK K
      (try simp only [Act.put, List.setIfInBounds_toArray, List.set_cons_zero, List.set_cons_succ])
      --TAKES narthex/narthexlaw47.give:5 19
      refine wpAnyH_take (i := 19) (oi := ({ dst := some 3, op := Op.assign (Operand.tmp 29), type := 27, pos := "law.go:17", after := #[{ on := 18, ground := Ground.data }, { on := 18, ground := Ground.chain }, { on := 0, ground := Ground.phase }, { on := 1, ground := Ground.phase }, { on := 2, ground := Ground.phase }, { on := 3, ground := Ground.phase }, { on := 4, ground := Ground.phase }, { on := 5, ground := Ground.phase }, { on := 6, ground := Ground.phase }, { on := 7, ground := Ground.phase }, { on := 8, ground := Ground.phase }, { on := 9, ground := Ground.phase }, { on := 10, ground := Ground.phase }, { on := 11, ground := Ground.phase }, { on := 12, ground := Ground.phase }, { on := 13, ground := Ground.phase }, { on := 14, ground := Ground.phase }, { on := 15, ground := Ground.phase }, { on := 16, ground := Ground.phase }, { on := 17, ground := Ground.phase }, { on := 18, ground := Ground.phase }], guard := none } : Oper)) (v := ?_) rfl (by kernel_rfl) (by kernel_rfl) (by kernel_rfl) (fun _ _ _ h => h) (Or.inl ⟨by rfl, ?_⟩) (by assumption) ?_
      rotate_left 1
      · intro w hSw; (try dsimp only at hSw); go_simp; try with_reducible rfl
      (try simp only [Act.put, List.setIfInBounds_toArray, List.set_cons_zero, List.set_cons_succ])
      --END
      refine wpAnyH_done (by kernel_rfl) ?_ _
      rw [← htk.out] at ho3
      have HO3 := Lib.hid ho3
      have HB3 := Lib.hid (HBU.out.grown hg3 hsz (fun g hg => (HOU.out.lt g hg).1))
      clear ho3 hg3 hb3 hne hHeld
      go_wp2
      go_roundw
      case rel => exact ⟨k + 1, _, rfl, by omega, by go_num, HO3, HB3⟩
      case measure => simp [intOf]; omega
    · obtain rfl : k = n := by omega
      obtain ⟨A2, c2, rfl⟩ := own_shapeQ HO.out
      have hc := own_capQ HO.out
      have ho := HO.out
      rw [List.take_of_length_le (by rw [HL.out]; exact Nat.le_refl _)] at ho
      have HO2 := Lib.hid ho
      clear ho
      go_wp2
      go_ret
      rw [← HL.out] at HO2 hc ⊢
      exact ⟨A2, c2, rfl, hc.1, hc.2, HO2.out, HB.out⟩
def greatSt (l : List StN) : Bool := (l.take 80).any (fun x => decide (200 < x.nm.size)) || decide (70 < l.length)
theorem greatSt_no {l : List StN} (h : greatSt l = false) : l.length ≤ 70 ∧ ∀ x ∈ l, x.nm.size ≤ 200 := by
  unfold greatSt at h
  simp only [Bool.or_eq_false_iff, decide_eq_false_iff_not] at h
  refine ⟨by omega, fun x hx => ?_⟩
  rw [List.take_of_length_le (by omega), List.any_eq_false] at h
  have := h.1 x hx
  simpa using this
set_option maxRecDepth 100000 in
set_option maxHeartbeats 2000000 in
theorem rgreat_any (A : Option Addr) (n cp : Nat) (l : List StN) (w : World) (hn : n ≤ 9223372036854775807) (hs : StsAt w A n l) :
    Calls Tryd.prog 7 #[.slice A n cp] w (RetB (greatSt l) w) := by
  have HS := Lib.hid hs
  have HL := Lib.hid hs.1
  obtain ⟨b, hb⟩ : ∃ b, b = greatSt l := ⟨_, rfl⟩
  rw [← hb]
  unfold greatSt at hb
  rw [hs.1] at hb
  have HBB := Lib.hid hb
  clear hs hb
  go_enter Tryd.func7, Tryd.ntmps7
  go_wp2
  go_loop [3] (fun v3 => ∃ k : Nat, k ≤ n ∧ k ≤ 80 ∧ v3 = .int .i64 k ∧ Hid ((l.take k).any (fun x => decide (200 < x.nm.size)) = false)) (fun v3 => n - (intOf v3).toNat)
  case atStart => exact ⟨0, Nat.zero_le _, by omega, rfl, rfl⟩
  case round =>
    obtain ⟨k, hk, hk2, rfl, HN⟩ := hrel
    by_cases hlt : k < n
    · by_cases h80 : k < 80
      · obtain ⟨a, x, rfl, hx, -, h0, h1, h2⟩ := HS.out.2 k hlt
        have e0 : (0 : Int) ≤ (k : Int) := by omega
        have e1 : (k : Int) < (n : Int) := by omega
        have e2 : (k : Int) < 80 := by omega
        have hst : (l.take (k + 1)).any (fun x => decide (200 < x.nm.size)) = ((l.take k).any (fun x => decide (200 < x.nm.size)) || decide (200 < x.nm.size)) := by
          rw [List.take_add_one, hx, List.any_append]; simp
        rw [HN.out, Bool.false_or] at hst
        by_cases hg : 200 < x.nm.size
        · rw [decide_eq_true hg] at hst
          have hb : Hid (b = true) := by
            show _ = _
            rw [HBB.out]
            have : (l.take 80).any (fun x => decide (200 < x.nm.size)) = true := by
              rw [List.any_eq_true] at hst ⊢
              obtain ⟨y, hy, hy2⟩ := hst
              exact ⟨y, List.mem_of_mem_take (show y ∈ (l.take 80).take (k + 1) by rw [List.take_take, Nat.min_eq_left (by omega)]; exact hy), hy2⟩
            rw [this]; rfl
          have g1 : (200 : Int) < (x.nm.size : Int) := by omega
          clear hst hx hg
          go_wp2
          go_ret
          rw [hb.out]
          exact ⟨rfl, rfl⟩
        · rw [decide_eq_false hg] at hst
          have HN2 := Lib.hid hst
          have g1 : ¬ (200 : Int) < (x.nm.size : Int) := by omega
          clear hst hx hg
          go_wp2
          go_round
          case rel => exact ⟨k + 1, by omega, by omega, by go_num, HN2⟩
          case measure => simp [intOf]; omega
      · obtain rfl : k = 80 := by omega
        have hb : Hid (b = true) := by
          show _ = _
          rw [HBB.out, decide_eq_true (show 70 < n by omega), Bool.or_true]
        have e1 : (80 : Int) < (n : Int) := by omega
        have e2 : (70 : Int) < (n : Int) := by omega
        go_wp2
        go_ret
        rw [hb.out]
        exact ⟨rfl, rfl⟩
    · obtain rfl : k = n := by omega
      have hb : b = decide (70 < k) := by
        rw [HBB.out]
        have : (l.take 80).any (fun x => decide (200 < x.nm.size)) = false := by
          have h := HN.out
          rw [List.take_of_length_le (by rw [HL.out]; exact Nat.le_refl _)] at h
          rw [List.take_of_length_le (by rw [HL.out]; omega)]; exact h
        rw [this, Bool.false_or]
      by_cases hg : 70 < k
      · have g1 : (70 : Int) < (k : Int) := by omega
        rw [decide_eq_true hg] at hb
        have HB2 := Lib.hid hb
        clear hb hg
        go_wp2
        go_ret
        rw [HB2.out]
        exact ⟨rfl, rfl⟩
      · have g1 : ¬ (70 : Int) < (k : Int) := by omega
        rw [decide_eq_false hg] at hb
        have HB2 := Lib.hid hb
        clear hb hg
        go_wp2
        go_ret
        rw [HB2.out]
        exact ⟨rfl, rfl⟩
end Go.Proofs.YtlifdmehejehjaaDoor
