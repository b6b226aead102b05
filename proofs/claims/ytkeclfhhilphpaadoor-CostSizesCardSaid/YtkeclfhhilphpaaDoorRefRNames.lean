/- The contract of the reference's Names, once each or not (printed by gen-refrnames.py). Conditions: none. -/
import Derived.Test.YtkeclfhhilphpaaDoorRefNames
import Derived.Test.YtkeclfhhilphpaaDoorRefAll
import Derived.Deep.RegionHeld3
namespace Go.Proofs.YtkeclfhhilphpaaDoor
open Go.RowKit Go.Proofs.YtkeclfhhilphpaaDoor.UtfPlain Go.Proofs.YtkeclfhhilphpaaDoor.CharsPlain Go.Proofs.YtkeclfhhilphpaaDoor.NamePlain Go.Proofs.YtkeclfhhilphpaaDoor.RefPlain
def hasT (l : List ByteArray) (x : ByteArray) : Bool := l.any fun y => decide (y = x)
def addN (once : Bool) (out : List ByteArray) (x : ByteArray) : List ByteArray := if (once && hasT out x) = true then out else out ++ [x]
def outN (once : Bool) (l : List ByteArray) : List ByteArray := l.foldl (addN once) []
def namesOf (s : ByteArray) : List ByteArray := (refsN (bsOf s)).map fun x => strOfNums x.s
theorem addN_in {out : List ByteArray} {x : ByteArray} (h : hasT out x = true) : addN true out x = out := if_pos (by rw [h]; rfl)
theorem addN_not {out : List ByteArray} {x : ByteArray} (h : hasT out x = false) : addN true out x = out ++ [x] := if_neg (by rw [h]; simp)
theorem addN_any (out : List ByteArray) (x : ByteArray) : addN false out x = out ++ [x] := if_neg (by simp)
theorem addN_len (once : Bool) (out : List ByteArray) (x : ByteArray) : (addN once out x).length ≤ out.length + 1 := by
  unfold addN; split
  · omega
  · simp
theorem foldN_len (once : Bool) (l : List ByteArray) : ∀ out, (l.foldl (addN once) out).length ≤ out.length + l.length := by
  induction l with
  | nil => intro out; simp
  | cons x l ih =>
    intro out
    have h1 := ih (addN once out x)
    have h2 := addN_len once out x
    simp only [List.foldl_cons, List.length_cons]
    omega
theorem outN_len (once : Bool) (l : List ByteArray) : (outN once l).length ≤ l.length := by
  have := foldN_len once l []
  simpa [outN] using this
theorem outN_step (once : Bool) (r : List RefR) (k : Nat) (x : RefR) (hx : r[k]? = some x) : outN once ((r.take (k + 1)).map fun x => strOfNums x.s) = addN once (outN once ((r.take k).map fun x => strOfNums x.s)) (strOfNums x.s) := by
  unfold outN
  rw [List.take_add_one, hx, List.map_append, List.foldl_append]; rfl
theorem fold_false (l : List ByteArray) : ∀ out, l.foldl (addN false) out = out ++ l := by
  induction l with
  | nil => intro out; simp
  | cons x l ih => intro out; rw [List.foldl_cons, ih, addN_any]; simp
theorem outN_false (l : List ByteArray) : outN false l = l := by unfold outN; rw [fold_false]; rfl
theorem mem_more {out : List ByteArray} {x : ByteArray} {j : Nat} (h : hasT (out.take j) x = true) : hasT (out.take (j + 1)) x = true := by
  unfold hasT at *; rw [List.take_add_one, List.any_append, h]; rfl
theorem mem_at {out : List ByteArray} {x y : ByteArray} {j : Nat} (hy : out[j]? = some y) (h : y = x) : hasT (out.take (j + 1)) x = true := by
  unfold hasT at *; rw [List.take_add_one, List.any_append, hy]; simp [h]
theorem mem_not {out : List ByteArray} {x y : ByteArray} {j : Nat} (h : hasT (out.take j) x = false) (hy : out[j]? = some y) (h2 : ¬ y = x) : hasT (out.take (j + 1)) x = false := by
  unfold hasT at *; rw [List.take_add_one, List.any_append, hy, h]; simp [h2]
theorem txtCells_snoc2 (l : List ByteArray) (x : ByteArray) : txtCells (l ++ [x]) = txtCells l ++ [.string x] := by simp [txtCells]
def TellTs (l : List ByteArray) (w : World) (e : Ending) (w' : World) : Prop := ∃ A c, e = .returned (.slice A l.length c) ∧ TsAt w' A l.length l ∧ Below w.heap.size w w'
set_option maxRecDepth 100000 in
set_option maxHeartbeats 16000000 in
theorem rnames_false (s : ByteArray) (w : World) (hlen : s.size ≤ 1048576) : Calls Tryd.prog 24 #[.string s, .bool false] w (TellTs (outN false (namesOf s)) w) := by
  obtain ⟨i0, hi0, hz0, hz1, hz2⟩ := info_parts Tryd.infoStrR
  have C := Lib.hid (rall18_any s w hlen)
  have hrl := refsN_len (bsOf s)
  rw [bsOf_len] at hrl
  go_enter Tryd.func24, Tryd.ntmps24
  go_wp2_with fail
  refine C.out.mono ?_
  rintro e w1 ⟨A, c, rfl, hm, hB⟩
  have M := Lib.hid hm
  have H1 := Lib.hid hB
  clear hm hB C
  obtain ⟨r, hr⟩ : ∃ r, refsN (bsOf s) = r := ⟨_, rfl⟩
  obtain ⟨n, hn⟩ : ∃ n, r.length = n := ⟨_, rfl⟩
  have NN : Hid (namesOf s = r.map fun x => strOfNums x.s) := by show _ = _; unfold namesOf; rw [hr]
  have NS := Lib.hid hn
  rw [hr, hn] at M hrl ⊢
  clear hr hn
  go_wp2
  go_loopw [6, 7, 8, 9] (fun v0 i0 _ _ wr => ∃ (k : Nat) (v : Value), v = v0 ∧ k ≤ n ∧ i0 = .int .i64 k ∧ Hid (wr.ownsRow w1.heap.size 9 1 v (outN false ((r.take k).map fun x => strOfNums x.s)).length (txtCells (outN false ((r.take k).map fun x => strOfNums x.s)))) ∧ Hid (Below w1.heap.size w1 wr)) (fun _ i0 _ _ _ => n - (intOf i0).toNat)
  case atStart => exact ⟨0, _, rfl, by omega, rfl, World.ownsRow_nil _ _ _ _, Below.refl _ _⟩
  case round =>
    obtain ⟨k, v, rfl, hk, rfl, HO, HB⟩ := hrel
    by_cases hlt : k < n
    · have MR := Lib.hid (M.out.below HB.out)
      obtain ⟨a2, x, ha2, hx, _, _, _, g3⟩ := MR.out.2 k hlt
      subst ha2
      have b0 : (0 : Int) ≤ (k : Int) := by omega
      have b1 : (k : Int) < (n : Int) := by omega
      have hol := outN_len false ((r.take k).map fun x => strOfNums x.s)
      rw [List.length_map, List.length_take, NS.out, Nat.min_eq_left hk] at hol
      have EK : Hid (outN false ((r.take (k + 1)).map fun x => strOfNums x.s) = addN false (outN false ((r.take k).map fun x => strOfNums x.s)) (strOfNums x.s)) := outN_step false r k x hx
      clear hx
      generalize outN false ((r.take k).map fun x => strOfNums x.s) = out at *
      obtain ⟨m, hm⟩ : ∃ m, out.length = m := ⟨_, rfl⟩
      have MO := Lib.hid hm
      obtain ⟨A2, c2, hv⟩ := own_shapeA HO.out
      rw [hv] at HO
      subst hv
      have TO := Lib.hid (TsAt.of_own HO.out)
      rw [hm] at TO hol ⊢
      clear hm
      go_wp2
      go_loopw [8, 9] (fun th kk wr2 => kk = .int .i64 (0 : Nat) ∧ th = .bool false ∧ wr2 = wr) (fun _ _ _ => 0)
      case atStart => exact ⟨rfl, rfl, rfl⟩
      case round =>
        obtain ⟨rfl, rfl, rfl⟩ := hrel
        have EE := Lib.hid (addN_any out (strOfNums x.s))
        have d := 0
        by_cases hm0 : 0 < m
        · have b3 : (0 : Int) < (m : Int) := by omega
          have hown : wr.ownsRow w1.heap.size 9 1 (.slice A2 m c2) m (txtCells out) := by rw [← MO.out]; exact HO.out
          have HBd : Hid (Below w1.heap.size w1 wr) := HB.out
          have hg3 : wr.cell? ⟨(a2.add (k * 3)).block, (a2.add (k * 3)).off + 2, none⟩ = some (.string (strOfNums x.s)) := g3
          have hsz : w1.heap.size ≤ wr.heap.size := HBd.out.size
          go_wp2_with (at_builtin; refine wpList_append_own _ rfl (.tmp 42) (.tmp 48) 46 rfl w1.heap.size 9 i0 (.string ⟨#[]⟩) 1 16 Tryd.underlying46 hi0 hz0 hz1 hz2 rfl (by decide) _ _ _ rfl (hown.alloc _) ⟨wr.heap.size, 0, none⟩ 1 1 [.string (strOfNums x.s)] rfl rfl (cell_one_new _ _ _) (by simp [Value.oneCell']) (by unfold maxLen; omega) (by omega) (by simp; omega) ?_)
          intro v' w3 hown' hgrow _
          have HB3 := Lib.hid ((HBd.out.alloc hsz _).grown hgrow (by simp; omega) (fun g hg => (hown.lt g hg).1))
          have hown3 : w3.ownsRow w1.heap.size 9 1 v' (out ++ [strOfNums x.s]).length (txtCells (out ++ [strOfNums x.s])) := by
            rw [List.length_append, MO.out, txtCells_snoc2]; exact hown'
          have HO3 := Lib.hid hown3
          clear hown' hgrow hown hown3
          go_wp2
          go_roundw
          case rel => exact ⟨k + 1, v', rfl, by omega, by go_num, by rw [EK.out, EE.out]; exact HO3.out, HB3.out⟩
          case measure => simp [intOf]; omega
        · obtain rfl : m = 0 := by omega
          have hown : wr.ownsRow w1.heap.size 9 1 (.slice A2 0 c2) 0 (txtCells out) := by rw [← MO.out]; exact HO.out
          have HBd : Hid (Below w1.heap.size w1 wr) := HB.out
          have hg3 : wr.cell? ⟨(a2.add (k * 3)).block, (a2.add (k * 3)).off + 2, none⟩ = some (.string (strOfNums x.s)) := g3
          have hsz : w1.heap.size ≤ wr.heap.size := HBd.out.size
          go_wp2_with (at_builtin; refine wpList_append_own _ rfl (.tmp 42) (.tmp 48) 46 rfl w1.heap.size 9 i0 (.string ⟨#[]⟩) 1 16 Tryd.underlying46 hi0 hz0 hz1 hz2 rfl (by decide) _ _ _ rfl (hown.alloc _) ⟨wr.heap.size, 0, none⟩ 1 1 [.string (strOfNums x.s)] rfl rfl (cell_one_new _ _ _) (by simp [Value.oneCell']) (by unfold maxLen; omega) (by omega) (by simp; omega) ?_)
          intro v' w3 hown' hgrow _
          have HB3 := Lib.hid ((HBd.out.alloc hsz _).grown hgrow (by simp; omega) (fun g hg => (hown.lt g hg).1))
          have hown3 : w3.ownsRow w1.heap.size 9 1 v' (out ++ [strOfNums x.s]).length (txtCells (out ++ [strOfNums x.s])) := by
            rw [List.length_append, MO.out, txtCells_snoc2]; exact hown'
          have HO3 := Lib.hid hown3
          clear hown' hgrow hown hown3
          go_wp2
          go_roundw
          case rel => exact ⟨k + 1, v', rfl, by omega, by go_num, by rw [EK.out, EE.out]; exact HO3.out, HB3.out⟩
          case measure => simp [intOf]; omega
    · obtain rfl : k = n := by omega
      have ht : r.take r.length = r := List.take_length
      rw [← NS.out, ht] at HO
      obtain ⟨A2, c2, hv⟩ := own_shapeA HO.out
      rw [hv] at HO
      subst hv
      have TO := Lib.hid (TsAt.of_own HO.out)
      clear HO ht
      go_wp2
      go_ret
      rw [NN.out]
      exact ⟨A2, c2, rfl, TO.out, H1.out.trans (HB.out.mono H1.out.size)⟩
set_option maxRecDepth 100000 in
set_option maxHeartbeats 16000000 in
theorem rnames_true (s : ByteArray) (w : World) (hlen : s.size ≤ 1048576) : Calls Tryd.prog 24 #[.string s, .bool true] w (TellTs (outN true (namesOf s)) w) := by
  obtain ⟨i0, hi0, hz0, hz1, hz2⟩ := info_parts Tryd.infoStrR
  have C := Lib.hid (rall18_any s w hlen)
  have hrl := refsN_len (bsOf s)
  rw [bsOf_len] at hrl
  go_enter Tryd.func24, Tryd.ntmps24
  go_wp2_with fail
  refine C.out.mono ?_
  rintro e w1 ⟨A, c, rfl, hm, hB⟩
  have M := Lib.hid hm
  have H1 := Lib.hid hB
  clear hm hB C
  obtain ⟨r, hr⟩ : ∃ r, refsN (bsOf s) = r := ⟨_, rfl⟩
  obtain ⟨n, hn⟩ : ∃ n, r.length = n := ⟨_, rfl⟩
  have NN : Hid (namesOf s = r.map fun x => strOfNums x.s) := by show _ = _; unfold namesOf; rw [hr]
  have NS := Lib.hid hn
  rw [hr, hn] at M hrl ⊢
  clear hr hn
  go_wp2
  go_loopw [6, 7, 8, 9] (fun v0 i0 _ _ wr => ∃ (k : Nat) (v : Value), v = v0 ∧ k ≤ n ∧ i0 = .int .i64 k ∧ Hid (wr.ownsRow w1.heap.size 9 1 v (outN true ((r.take k).map fun x => strOfNums x.s)).length (txtCells (outN true ((r.take k).map fun x => strOfNums x.s)))) ∧ Hid (Below w1.heap.size w1 wr)) (fun _ i0 _ _ _ => n - (intOf i0).toNat)
  case atStart => exact ⟨0, _, rfl, by omega, rfl, World.ownsRow_nil _ _ _ _, Below.refl _ _⟩
  case round =>
    obtain ⟨k, v, rfl, hk, rfl, HO, HB⟩ := hrel
    by_cases hlt : k < n
    · have MR := Lib.hid (M.out.below HB.out)
      obtain ⟨a2, x, ha2, hx, _, _, _, g3⟩ := MR.out.2 k hlt
      subst ha2
      have b0 : (0 : Int) ≤ (k : Int) := by omega
      have b1 : (k : Int) < (n : Int) := by omega
      have hol := outN_len true ((r.take k).map fun x => strOfNums x.s)
      rw [List.length_map, List.length_take, NS.out, Nat.min_eq_left hk] at hol
      have EK : Hid (outN true ((r.take (k + 1)).map fun x => strOfNums x.s) = addN true (outN true ((r.take k).map fun x => strOfNums x.s)) (strOfNums x.s)) := outN_step true r k x hx
      clear hx
      generalize outN true ((r.take k).map fun x => strOfNums x.s) = out at *
      obtain ⟨m, hm⟩ : ∃ m, out.length = m := ⟨_, rfl⟩
      have MO := Lib.hid hm
      obtain ⟨A2, c2, hv⟩ := own_shapeA HO.out
      rw [hv] at HO
      subst hv
      have TO := Lib.hid (TsAt.of_own HO.out)
      rw [hm] at TO hol ⊢
      clear hm
      go_wp2
      go_loopw [8, 9] (fun th kk wr2 => ∃ (j d : Nat), j ≤ m ∧ kk = .int .i64 j ∧ th = .bool (hasT (out.take j) (strOfNums x.s)) ∧ wr2 = wr.drewN d) (fun _ kk _ => m - (intOf kk).toNat)
      case atStart => exact ⟨0, 0, by omega, rfl, rfl, rfl⟩
      case round =>
        obtain ⟨j, d, hj, rfl, rfl, rfl⟩ := hrel
        by_cases hjm : j < m
        · obtain ⟨a3, y, ha3, hy, _, g1⟩ := TO.out.2 j hjm
          subst ha3
          have b2 : (0 : Int) ≤ (j : Int) := by omega
          have b3 : (j : Int) < (m : Int) := by omega
          have q0 : (wr.drewN d).cell? ⟨(a2.add (k * 3)).block, (a2.add (k * 3)).off + 2, none⟩ = some (.string (strOfNums x.s)) := g3
          have q1 : (wr.drewN d).cell? (a3.add j) = some (.string y) := g1
          have Y := Lib.hid hy
          clear hy
          cases hin : hasT (out.take j) (strOfNums x.s)
          rotate_left 1
          · have HI := Lib.hid hin
            clear hin
            go_wp2_with fail
            refine wp_region_held_drew (S := fun _ => True) (by kernel_rfl) trivial (fun hHeld => ?_)
            refine wpAnyH_take (i := 0) (oi := ({ dst := some 27, op := Op.move (Operand.tmp 8), type := 4, pos := "ref.go:36", after := #[], guard := none } : Oper)) (v := ?_) rfl (by kernel_rfl) (by kernel_rfl) (by kernel_rfl) (fun _ _ _ h => h) (Or.inl ⟨by rfl, ?_⟩) (by assumption) ?_
            rotate_left 1
            · intro w hSw; (try dsimp only at hSw); go_simp; try with_reducible rfl
            (try simp only [Act.put, List.setIfInBounds_toArray, List.set_cons_zero, List.set_cons_succ])
            refine wpAnyH_take (i := 1) (oi := ({ dst := some 28, op := Op.move (Operand.tmp 27), type := 4, pos := "ref.go:36", after := #[{ on := 0, ground := Ground.data }], guard := none } : Oper)) (v := ?_) rfl (by kernel_rfl) (by kernel_rfl) (by kernel_rfl) (fun _ _ _ h => h) (Or.inl ⟨by rfl, ?_⟩) (by assumption) ?_
            rotate_left 1
            · intro w hSw; (try dsimp only at hSw); go_simp; try with_reducible rfl
            (try simp only [Act.put, List.setIfInBounds_toArray, List.set_cons_zero, List.set_cons_succ])
            refine wpAnyH_take (i := 2) (oi := ({ dst := some 29, op := Op.move (Operand.tmp 6), type := 46, pos := "ref.go:36", after := #[{ on := 1, ground := Ground.guard }], guard := some (1, false) } : Oper)) (v := undef) rfl (by kernel_rfl) (by kernel_rfl) (by kernel_rfl) (fun _ _ _ h => h) (Or.inr ⟨by rfl, rfl⟩) (by assumption) ?_
            (try simp only [Act.put, List.setIfInBounds_toArray, List.set_cons_zero, List.set_cons_succ])
            refine wpAnyH_take (i := 3) (oi := ({ dst := some 30, op := Op.move (Operand.tmp 9), type := 3, pos := "ref.go:36", after := #[{ on := 1, ground := Ground.guard }], guard := some (1, false) } : Oper)) (v := undef) rfl (by kernel_rfl) (by kernel_rfl) (by kernel_rfl) (fun _ _ _ h => h) (Or.inr ⟨by rfl, rfl⟩) (by assumption) ?_
            (try simp only [Act.put, List.setIfInBounds_toArray, List.set_cons_zero, List.set_cons_succ])
            refine wpAnyH_take (i := 4) (oi := ({ dst := some 31, op := Op.indexAddr 46 (Operand.tmp 29) (Operand.tmp 30), type := 0, pos := "ref.go:36", after := #[{ on := 2, ground := Ground.data }, { on := 3, ground := Ground.data }, { on := 1, ground := Ground.guard }], guard := some (1, false) } : Oper)) (v := undef) rfl (by kernel_rfl) (by kernel_rfl) (by kernel_rfl) (fun _ _ _ h => h) (Or.inr ⟨by rfl, rfl⟩) (by assumption) ?_
            (try simp only [Act.put, List.setIfInBounds_toArray, List.set_cons_zero, List.set_cons_succ])
            refine wpAnyH_take (i := 5) (oi := ({ dst := some 32, op := Op.load 9 (Operand.tmp 31), type := 9, pos := "ref.go:36", after := #[{ on := 4, ground := Ground.data }, { on := 1, ground := Ground.guard }], guard := some (1, false) } : Oper)) (v := undef) rfl (by kernel_rfl) (by kernel_rfl) (by kernel_rfl) (fun _ _ _ h => h) (Or.inr ⟨by rfl, rfl⟩) (by assumption) ?_
            (try simp only [Act.put, List.setIfInBounds_toArray, List.set_cons_zero, List.set_cons_succ])
            refine wpAnyH_take (i := 6) (oi := ({ dst := some 33, op := Op.move (Operand.tmp 5), type := 80, pos := "ref.go:36", after := #[{ on := 1, ground := Ground.guard }], guard := some (1, false) } : Oper)) (v := undef) rfl (by kernel_rfl) (by kernel_rfl) (by kernel_rfl) (fun _ _ _ h => h) (Or.inr ⟨by rfl, rfl⟩) (by assumption) ?_
            (try simp only [Act.put, List.setIfInBounds_toArray, List.set_cons_zero, List.set_cons_succ])
            refine wpAnyH_take (i := 7) (oi := ({ dst := some 34, op := Op.move (Operand.tmp 7), type := 3, pos := "ref.go:36", after := #[{ on := 1, ground := Ground.guard }], guard := some (1, false) } : Oper)) (v := undef) rfl (by kernel_rfl) (by kernel_rfl) (by kernel_rfl) (fun _ _ _ h => h) (Or.inr ⟨by rfl, rfl⟩) (by assumption) ?_
            (try simp only [Act.put, List.setIfInBounds_toArray, List.set_cons_zero, List.set_cons_succ])
            refine wpAnyH_take (i := 8) (oi := ({ dst := some 35, op := Op.indexAddr 80 (Operand.tmp 33) (Operand.tmp 34), type := 0, pos := "ref.go:36", after := #[{ on := 6, ground := Ground.data }, { on := 7, ground := Ground.data }, { on := 1, ground := Ground.guard }], guard := some (1, false) } : Oper)) (v := undef) rfl (by kernel_rfl) (by kernel_rfl) (by kernel_rfl) (fun _ _ _ h => h) (Or.inr ⟨by rfl, rfl⟩) (by assumption) ?_
            (try simp only [Act.put, List.setIfInBounds_toArray, List.set_cons_zero, List.set_cons_succ])
            refine wpAnyH_take (i := 9) (oi := ({ dst := some 36, op := Op.fieldAddr 82 (Operand.tmp 35) 2, type := 0, pos := "ref.go:36", after := #[{ on := 8, ground := Ground.data }, { on := 1, ground := Ground.guard }], guard := some (1, false) } : Oper)) (v := undef) rfl (by kernel_rfl) (by kernel_rfl) (by kernel_rfl) (fun _ _ _ h => h) (Or.inr ⟨by rfl, rfl⟩) (by assumption) ?_
            (try simp only [Act.put, List.setIfInBounds_toArray, List.set_cons_zero, List.set_cons_succ])
            refine wpAnyH_take (i := 10) (oi := ({ dst := some 37, op := Op.load 9 (Operand.tmp 36), type := 9, pos := "ref.go:36", after := #[{ on := 9, ground := Ground.data }, { on := 1, ground := Ground.guard }], guard := some (1, false) } : Oper)) (v := undef) rfl (by kernel_rfl) (by kernel_rfl) (by kernel_rfl) (fun _ _ _ h => h) (Or.inr ⟨by rfl, rfl⟩) (by assumption) ?_
            (try simp only [Act.put, List.setIfInBounds_toArray, List.set_cons_zero, List.set_cons_succ])
            refine wpAnyH_take (i := 11) (oi := ({ dst := some 38, op := Op.binOp BinOp.eql 9 (Operand.tmp 32) (Operand.tmp 37) 9, type := 4, pos := "ref.go:36", after := #[{ on := 5, ground := Ground.data }, { on := 10, ground := Ground.data }, { on := 1, ground := Ground.guard }], guard := some (1, false) } : Oper)) (v := undef) rfl (by kernel_rfl) (by kernel_rfl) (by kernel_rfl) (fun _ _ _ h => h) (Or.inr ⟨by rfl, rfl⟩) (by assumption) ?_
            (try simp only [Act.put, List.setIfInBounds_toArray, List.set_cons_zero, List.set_cons_succ])
            refine wpAnyH_take (i := 12) (oi := ({ dst := some 39, op := Op.pick (Operand.tmp 28) (Operand.const (Value.bool true)) (Operand.tmp 38), type := 4, pos := "ref.go:36", after := #[{ on := 1, ground := Ground.data }, { on := 11, ground := Ground.data }], guard := none } : Oper)) (v := ?_) rfl (by kernel_rfl) (by kernel_rfl) (by kernel_rfl) (fun _ _ _ h => h) (Or.inl ⟨by rfl, ?_⟩) (by assumption) ?_
            rotate_left 1
            · intro w hSw; (try dsimp only at hSw); go_simp; try with_reducible rfl
            (try simp only [Act.put, List.setIfInBounds_toArray, List.set_cons_zero, List.set_cons_succ])
            refine wpAnyH_take (i := 13) (oi := ({ dst := some 8, op := Op.assign (Operand.tmp 39), type := 4, pos := "ref.go:36", after := #[{ on := 12, ground := Ground.data }, { on := 1, ground := Ground.chain }, { on := 0, ground := Ground.phase }, { on := 1, ground := Ground.phase }, { on := 2, ground := Ground.phase }, { on := 3, ground := Ground.phase }, { on := 4, ground := Ground.phase }, { on := 5, ground := Ground.phase }, { on := 6, ground := Ground.phase }, { on := 7, ground := Ground.phase }, { on := 8, ground := Ground.phase }, { on := 9, ground := Ground.phase }, { on := 10, ground := Ground.phase }, { on := 11, ground := Ground.phase }, { on := 12, ground := Ground.phase }], guard := none } : Oper)) (v := ?_) rfl (by kernel_rfl) (by kernel_rfl) (by kernel_rfl) (fun _ _ _ h => h) (Or.inl ⟨by rfl, ?_⟩) (by assumption) ?_
            rotate_left 1
            · intro w hSw; (try dsimp only at hSw); go_simp; try with_reducible rfl
            (try simp only [Act.put, List.setIfInBounds_toArray, List.set_cons_zero, List.set_cons_succ])
            refine wpAnyH_done (by kernel_rfl) ?_ _
            go_wp2
            go_roundw
            case rel => exact ⟨j + 1, d + 1, by omega, by go_num, by rw [mem_more HI.out], by simp⟩
            case measure => simp [intOf]; omega
          · have HI := Lib.hid hin
            clear hin
            by_cases hyx : y = strOfNums x.s
            · have YX := Lib.hid hyx
              rw [hyx] at q1
              clear hyx
              go_wp2_with fail
              refine wp_region_held_drew (S := fun w' => w'.cell? ⟨(a2.add (k * 3)).block, (a2.add (k * 3)).off + 2, none⟩ = some (.string (strOfNums x.s)) ∧ w'.cell? (a3.add j) = some (.string (strOfNums x.s))) (by kernel_rfl) ⟨q0, q1⟩ (fun hHeld => ?_)
              refine wpAnyH_take (i := 0) (oi := ({ dst := some 27, op := Op.move (Operand.tmp 8), type := 4, pos := "ref.go:36", after := #[], guard := none } : Oper)) (v := ?_) rfl (by kernel_rfl) (by kernel_rfl) (by kernel_rfl) (fun _ _ _ h => h) (Or.inl ⟨by rfl, ?_⟩) (by assumption) ?_
              rotate_left 1
              · intro w hSw; (try dsimp only at hSw); go_simp; try with_reducible rfl
              (try simp only [Act.put, List.setIfInBounds_toArray, List.set_cons_zero, List.set_cons_succ])
              refine wpAnyH_take (i := 1) (oi := ({ dst := some 28, op := Op.move (Operand.tmp 27), type := 4, pos := "ref.go:36", after := #[{ on := 0, ground := Ground.data }], guard := none } : Oper)) (v := ?_) rfl (by kernel_rfl) (by kernel_rfl) (by kernel_rfl) (fun _ _ _ h => h) (Or.inl ⟨by rfl, ?_⟩) (by assumption) ?_
              rotate_left 1
              · intro w hSw; (try dsimp only at hSw); go_simp; try with_reducible rfl
              (try simp only [Act.put, List.setIfInBounds_toArray, List.set_cons_zero, List.set_cons_succ])
              refine wpAnyH_take (i := 2) (oi := ({ dst := some 29, op := Op.move (Operand.tmp 6), type := 46, pos := "ref.go:36", after := #[{ on := 1, ground := Ground.guard }], guard := some (1, false) } : Oper)) (v := ?_) rfl (by kernel_rfl) (by kernel_rfl) (by kernel_rfl) (fun _ _ _ h => h) (Or.inl ⟨by rfl, ?_⟩) (by assumption) ?_
              rotate_left 1
              · intro w hSw; (try dsimp only at hSw); go_simp; try with_reducible rfl
              (try simp only [Act.put, List.setIfInBounds_toArray, List.set_cons_zero, List.set_cons_succ])
              refine wpAnyH_take (i := 3) (oi := ({ dst := some 30, op := Op.move (Operand.tmp 9), type := 3, pos := "ref.go:36", after := #[{ on := 1, ground := Ground.guard }], guard := some (1, false) } : Oper)) (v := ?_) rfl (by kernel_rfl) (by kernel_rfl) (by kernel_rfl) (fun _ _ _ h => h) (Or.inl ⟨by rfl, ?_⟩) (by assumption) ?_
              rotate_left 1
              · intro w hSw; (try dsimp only at hSw); go_simp; try with_reducible rfl
              (try simp only [Act.put, List.setIfInBounds_toArray, List.set_cons_zero, List.set_cons_succ])
              refine wpAnyH_take (i := 4) (oi := ({ dst := some 31, op := Op.indexAddr 46 (Operand.tmp 29) (Operand.tmp 30), type := 0, pos := "ref.go:36", after := #[{ on := 2, ground := Ground.data }, { on := 3, ground := Ground.data }, { on := 1, ground := Ground.guard }], guard := some (1, false) } : Oper)) (v := ?_) rfl (by kernel_rfl) (by kernel_rfl) (by kernel_rfl) (fun _ _ _ h => h) (Or.inl ⟨by rfl, ?_⟩) (by assumption) ?_
              rotate_left 1
              · intro w hSw; (try dsimp only at hSw); go_simp; try with_reducible rfl
              (try simp only [Act.put, List.setIfInBounds_toArray, List.set_cons_zero, List.set_cons_succ])
              refine wpAnyH_take (i := 5) (oi := ({ dst := some 32, op := Op.load 9 (Operand.tmp 31), type := 9, pos := "ref.go:36", after := #[{ on := 4, ground := Ground.data }, { on := 1, ground := Ground.guard }], guard := some (1, false) } : Oper)) (v := ?_) rfl (by kernel_rfl) (by kernel_rfl) (by kernel_rfl) (fun _ _ _ h => h) (Or.inl ⟨by rfl, ?_⟩) (by assumption) ?_
              rotate_left 1
              · intro w hSw; (try dsimp only at hSw); go_simp; try with_reducible rfl
              (try simp only [Act.put, List.setIfInBounds_toArray, List.set_cons_zero, List.set_cons_succ])
              refine wpAnyH_take (i := 6) (oi := ({ dst := some 33, op := Op.move (Operand.tmp 5), type := 80, pos := "ref.go:36", after := #[{ on := 1, ground := Ground.guard }], guard := some (1, false) } : Oper)) (v := ?_) rfl (by kernel_rfl) (by kernel_rfl) (by kernel_rfl) (fun _ _ _ h => h) (Or.inl ⟨by rfl, ?_⟩) (by assumption) ?_
              rotate_left 1
              · intro w hSw; (try dsimp only at hSw); go_simp; try with_reducible rfl
              (try simp only [Act.put, List.setIfInBounds_toArray, List.set_cons_zero, List.set_cons_succ])
              refine wpAnyH_take (i := 7) (oi := ({ dst := some 34, op := Op.move (Operand.tmp 7), type := 3, pos := "ref.go:36", after := #[{ on := 1, ground := Ground.guard }], guard := some (1, false) } : Oper)) (v := ?_) rfl (by kernel_rfl) (by kernel_rfl) (by kernel_rfl) (fun _ _ _ h => h) (Or.inl ⟨by rfl, ?_⟩) (by assumption) ?_
              rotate_left 1
              · intro w hSw; (try dsimp only at hSw); go_simp; try with_reducible rfl
              (try simp only [Act.put, List.setIfInBounds_toArray, List.set_cons_zero, List.set_cons_succ])
              refine wpAnyH_take (i := 8) (oi := ({ dst := some 35, op := Op.indexAddr 80 (Operand.tmp 33) (Operand.tmp 34), type := 0, pos := "ref.go:36", after := #[{ on := 6, ground := Ground.data }, { on := 7, ground := Ground.data }, { on := 1, ground := Ground.guard }], guard := some (1, false) } : Oper)) (v := ?_) rfl (by kernel_rfl) (by kernel_rfl) (by kernel_rfl) (fun _ _ _ h => h) (Or.inl ⟨by rfl, ?_⟩) (by assumption) ?_
              rotate_left 1
              · intro w hSw; (try dsimp only at hSw); go_simp; try with_reducible rfl
              (try simp only [Act.put, List.setIfInBounds_toArray, List.set_cons_zero, List.set_cons_succ])
              refine wpAnyH_take (i := 9) (oi := ({ dst := some 36, op := Op.fieldAddr 82 (Operand.tmp 35) 2, type := 0, pos := "ref.go:36", after := #[{ on := 8, ground := Ground.data }, { on := 1, ground := Ground.guard }], guard := some (1, false) } : Oper)) (v := ?_) rfl (by kernel_rfl) (by kernel_rfl) (by kernel_rfl) (fun _ _ _ h => h) (Or.inl ⟨by rfl, ?_⟩) (by assumption) ?_
              rotate_left 1
              · intro w hSw; (try dsimp only at hSw); go_simp; try with_reducible rfl
              (try simp only [Act.put, List.setIfInBounds_toArray, List.set_cons_zero, List.set_cons_succ])
              refine wpAnyH_take (i := 10) (oi := ({ dst := some 37, op := Op.load 9 (Operand.tmp 36), type := 9, pos := "ref.go:36", after := #[{ on := 9, ground := Ground.data }, { on := 1, ground := Ground.guard }], guard := some (1, false) } : Oper)) (v := ?_) rfl (by kernel_rfl) (by kernel_rfl) (by kernel_rfl) (fun _ _ _ h => h) (Or.inl ⟨by rfl, ?_⟩) (by assumption) ?_
              rotate_left 1
              · intro w hSw; (try dsimp only at hSw); go_simp; try with_reducible rfl
              (try simp only [Act.put, List.setIfInBounds_toArray, List.set_cons_zero, List.set_cons_succ])
              refine wpAnyH_take (i := 11) (oi := ({ dst := some 38, op := Op.binOp BinOp.eql 9 (Operand.tmp 32) (Operand.tmp 37) 9, type := 4, pos := "ref.go:36", after := #[{ on := 5, ground := Ground.data }, { on := 10, ground := Ground.data }, { on := 1, ground := Ground.guard }], guard := some (1, false) } : Oper)) (v := ?_) rfl (by kernel_rfl) (by kernel_rfl) (by kernel_rfl) (fun _ _ _ h => h) (Or.inl ⟨by rfl, ?_⟩) (by assumption) ?_
              rotate_left 1
              · intro w hSw; (try dsimp only at hSw); go_simp; try with_reducible rfl
              (try simp only [Act.put, List.setIfInBounds_toArray, List.set_cons_zero, List.set_cons_succ])
              refine wpAnyH_take (i := 12) (oi := ({ dst := some 39, op := Op.pick (Operand.tmp 28) (Operand.const (Value.bool true)) (Operand.tmp 38), type := 4, pos := "ref.go:36", after := #[{ on := 1, ground := Ground.data }, { on := 11, ground := Ground.data }], guard := none } : Oper)) (v := ?_) rfl (by kernel_rfl) (by kernel_rfl) (by kernel_rfl) (fun _ _ _ h => h) (Or.inl ⟨by rfl, ?_⟩) (by assumption) ?_
              rotate_left 1
              · intro w hSw; (try dsimp only at hSw); go_simp; try with_reducible rfl
              (try simp only [Act.put, List.setIfInBounds_toArray, List.set_cons_zero, List.set_cons_succ])
              refine wpAnyH_take (i := 13) (oi := ({ dst := some 8, op := Op.assign (Operand.tmp 39), type := 4, pos := "ref.go:36", after := #[{ on := 12, ground := Ground.data }, { on := 1, ground := Ground.chain }, { on := 0, ground := Ground.phase }, { on := 1, ground := Ground.phase }, { on := 2, ground := Ground.phase }, { on := 3, ground := Ground.phase }, { on := 4, ground := Ground.phase }, { on := 5, ground := Ground.phase }, { on := 6, ground := Ground.phase }, { on := 7, ground := Ground.phase }, { on := 8, ground := Ground.phase }, { on := 9, ground := Ground.phase }, { on := 10, ground := Ground.phase }, { on := 11, ground := Ground.phase }, { on := 12, ground := Ground.phase }], guard := none } : Oper)) (v := ?_) rfl (by kernel_rfl) (by kernel_rfl) (by kernel_rfl) (fun _ _ _ h => h) (Or.inl ⟨by rfl, ?_⟩) (by assumption) ?_
              rotate_left 1
              · intro w hSw; (try dsimp only at hSw); go_simp; try with_reducible rfl
              (try simp only [Act.put, List.setIfInBounds_toArray, List.set_cons_zero, List.set_cons_succ])
              refine wpAnyH_done (by kernel_rfl) ?_ _
              go_wp2
              go_roundw
              case rel => exact ⟨j + 1, d + 1, by omega, by go_num, by rw [mem_at Y.out YX.out], by simp⟩
              case measure => simp [intOf]; omega
            · have YX := Lib.hid hyx
              have t4 := sL_no hyx
              clear hyx
              go_wp2_with fail
              refine wp_region_held_drew (S := fun w' => w'.cell? ⟨(a2.add (k * 3)).block, (a2.add (k * 3)).off + 2, none⟩ = some (.string (strOfNums x.s)) ∧ w'.cell? (a3.add j) = some (.string y)) (by kernel_rfl) ⟨q0, q1⟩ (fun hHeld => ?_)
              refine wpAnyH_take (i := 0) (oi := ({ dst := some 27, op := Op.move (Operand.tmp 8), type := 4, pos := "ref.go:36", after := #[], guard := none } : Oper)) (v := ?_) rfl (by kernel_rfl) (by kernel_rfl) (by kernel_rfl) (fun _ _ _ h => h) (Or.inl ⟨by rfl, ?_⟩) (by assumption) ?_
              rotate_left 1
              · intro w hSw; (try dsimp only at hSw); go_simp; try with_reducible rfl
              (try simp only [Act.put, List.setIfInBounds_toArray, List.set_cons_zero, List.set_cons_succ])
              refine wpAnyH_take (i := 1) (oi := ({ dst := some 28, op := Op.move (Operand.tmp 27), type := 4, pos := "ref.go:36", after := #[{ on := 0, ground := Ground.data }], guard := none } : Oper)) (v := ?_) rfl (by kernel_rfl) (by kernel_rfl) (by kernel_rfl) (fun _ _ _ h => h) (Or.inl ⟨by rfl, ?_⟩) (by assumption) ?_
              rotate_left 1
              · intro w hSw; (try dsimp only at hSw); go_simp; try with_reducible rfl
              (try simp only [Act.put, List.setIfInBounds_toArray, List.set_cons_zero, List.set_cons_succ])
              refine wpAnyH_take (i := 2) (oi := ({ dst := some 29, op := Op.move (Operand.tmp 6), type := 46, pos := "ref.go:36", after := #[{ on := 1, ground := Ground.guard }], guard := some (1, false) } : Oper)) (v := ?_) rfl (by kernel_rfl) (by kernel_rfl) (by kernel_rfl) (fun _ _ _ h => h) (Or.inl ⟨by rfl, ?_⟩) (by assumption) ?_
              rotate_left 1
              · intro w hSw; (try dsimp only at hSw); go_simp; try with_reducible rfl
              (try simp only [Act.put, List.setIfInBounds_toArray, List.set_cons_zero, List.set_cons_succ])
              refine wpAnyH_take (i := 3) (oi := ({ dst := some 30, op := Op.move (Operand.tmp 9), type := 3, pos := "ref.go:36", after := #[{ on := 1, ground := Ground.guard }], guard := some (1, false) } : Oper)) (v := ?_) rfl (by kernel_rfl) (by kernel_rfl) (by kernel_rfl) (fun _ _ _ h => h) (Or.inl ⟨by rfl, ?_⟩) (by assumption) ?_
              rotate_left 1
              · intro w hSw; (try dsimp only at hSw); go_simp; try with_reducible rfl
              (try simp only [Act.put, List.setIfInBounds_toArray, List.set_cons_zero, List.set_cons_succ])
              refine wpAnyH_take (i := 4) (oi := ({ dst := some 31, op := Op.indexAddr 46 (Operand.tmp 29) (Operand.tmp 30), type := 0, pos := "ref.go:36", after := #[{ on := 2, ground := Ground.data }, { on := 3, ground := Ground.data }, { on := 1, ground := Ground.guard }], guard := some (1, false) } : Oper)) (v := ?_) rfl (by kernel_rfl) (by kernel_rfl) (by kernel_rfl) (fun _ _ _ h => h) (Or.inl ⟨by rfl, ?_⟩) (by assumption) ?_
              rotate_left 1
              · intro w hSw; (try dsimp only at hSw); go_simp; try with_reducible rfl
              (try simp only [Act.put, List.setIfInBounds_toArray, List.set_cons_zero, List.set_cons_succ])
              refine wpAnyH_take (i := 5) (oi := ({ dst := some 32, op := Op.load 9 (Operand.tmp 31), type := 9, pos := "ref.go:36", after := #[{ on := 4, ground := Ground.data }, { on := 1, ground := Ground.guard }], guard := some (1, false) } : Oper)) (v := ?_) rfl (by kernel_rfl) (by kernel_rfl) (by kernel_rfl) (fun _ _ _ h => h) (Or.inl ⟨by rfl, ?_⟩) (by assumption) ?_
              rotate_left 1
              · intro w hSw; (try dsimp only at hSw); go_simp; try with_reducible rfl
              (try simp only [Act.put, List.setIfInBounds_toArray, List.set_cons_zero, List.set_cons_succ])
              refine wpAnyH_take (i := 6) (oi := ({ dst := some 33, op := Op.move (Operand.tmp 5), type := 80, pos := "ref.go:36", after := #[{ on := 1, ground := Ground.guard }], guard := some (1, false) } : Oper)) (v := ?_) rfl (by kernel_rfl) (by kernel_rfl) (by kernel_rfl) (fun _ _ _ h => h) (Or.inl ⟨by rfl, ?_⟩) (by assumption) ?_
              rotate_left 1
              · intro w hSw; (try dsimp only at hSw); go_simp; try with_reducible rfl
              (try simp only [Act.put, List.setIfInBounds_toArray, List.set_cons_zero, List.set_cons_succ])
              refine wpAnyH_take (i := 7) (oi := ({ dst := some 34, op := Op.move (Operand.tmp 7), type := 3, pos := "ref.go:36", after := #[{ on := 1, ground := Ground.guard }], guard := some (1, false) } : Oper)) (v := ?_) rfl (by kernel_rfl) (by kernel_rfl) (by kernel_rfl) (fun _ _ _ h => h) (Or.inl ⟨by rfl, ?_⟩) (by assumption) ?_
              rotate_left 1
              · intro w hSw; (try dsimp only at hSw); go_simp; try with_reducible rfl
              (try simp only [Act.put, List.setIfInBounds_toArray, List.set_cons_zero, List.set_cons_succ])
              refine wpAnyH_take (i := 8) (oi := ({ dst := some 35, op := Op.indexAddr 80 (Operand.tmp 33) (Operand.tmp 34), type := 0, pos := "ref.go:36", after := #[{ on := 6, ground := Ground.data }, { on := 7, ground := Ground.data }, { on := 1, ground := Ground.guard }], guard := some (1, false) } : Oper)) (v := ?_) rfl (by kernel_rfl) (by kernel_rfl) (by kernel_rfl) (fun _ _ _ h => h) (Or.inl ⟨by rfl, ?_⟩) (by assumption) ?_
              rotate_left 1
              · intro w hSw; (try dsimp only at hSw); go_simp; try with_reducible rfl
              (try simp only [Act.put, List.setIfInBounds_toArray, List.set_cons_zero, List.set_cons_succ])
              refine wpAnyH_take (i := 9) (oi := ({ dst := some 36, op := Op.fieldAddr 82 (Operand.tmp 35) 2, type := 0, pos := "ref.go:36", after := #[{ on := 8, ground := Ground.data }, { on := 1, ground := Ground.guard }], guard := some (1, false) } : Oper)) (v := ?_) rfl (by kernel_rfl) (by kernel_rfl) (by kernel_rfl) (fun _ _ _ h => h) (Or.inl ⟨by rfl, ?_⟩) (by assumption) ?_
              rotate_left 1
              · intro w hSw; (try dsimp only at hSw); go_simp; try with_reducible rfl
              (try simp only [Act.put, List.setIfInBounds_toArray, List.set_cons_zero, List.set_cons_succ])
              refine wpAnyH_take (i := 10) (oi := ({ dst := some 37, op := Op.load 9 (Operand.tmp 36), type := 9, pos := "ref.go:36", after := #[{ on := 9, ground := Ground.data }, { on := 1, ground := Ground.guard }], guard := some (1, false) } : Oper)) (v := ?_) rfl (by kernel_rfl) (by kernel_rfl) (by kernel_rfl) (fun _ _ _ h => h) (Or.inl ⟨by rfl, ?_⟩) (by assumption) ?_
              rotate_left 1
              · intro w hSw; (try dsimp only at hSw); go_simp; try with_reducible rfl
              (try simp only [Act.put, List.setIfInBounds_toArray, List.set_cons_zero, List.set_cons_succ])
              refine wpAnyH_take (i := 11) (oi := ({ dst := some 38, op := Op.binOp BinOp.eql 9 (Operand.tmp 32) (Operand.tmp 37) 9, type := 4, pos := "ref.go:36", after := #[{ on := 5, ground := Ground.data }, { on := 10, ground := Ground.data }, { on := 1, ground := Ground.guard }], guard := some (1, false) } : Oper)) (v := ?_) rfl (by kernel_rfl) (by kernel_rfl) (by kernel_rfl) (fun _ _ _ h => h) (Or.inl ⟨by rfl, ?_⟩) (by assumption) ?_
              rotate_left 1
              · intro w hSw; (try dsimp only at hSw); go_simp; try with_reducible rfl
              (try simp only [Act.put, List.setIfInBounds_toArray, List.set_cons_zero, List.set_cons_succ])
              refine wpAnyH_take (i := 12) (oi := ({ dst := some 39, op := Op.pick (Operand.tmp 28) (Operand.const (Value.bool true)) (Operand.tmp 38), type := 4, pos := "ref.go:36", after := #[{ on := 1, ground := Ground.data }, { on := 11, ground := Ground.data }], guard := none } : Oper)) (v := ?_) rfl (by kernel_rfl) (by kernel_rfl) (by kernel_rfl) (fun _ _ _ h => h) (Or.inl ⟨by rfl, ?_⟩) (by assumption) ?_
              rotate_left 1
              · intro w hSw; (try dsimp only at hSw); go_simp; try with_reducible rfl
              (try simp only [Act.put, List.setIfInBounds_toArray, List.set_cons_zero, List.set_cons_succ])
              refine wpAnyH_take (i := 13) (oi := ({ dst := some 8, op := Op.assign (Operand.tmp 39), type := 4, pos := "ref.go:36", after := #[{ on := 12, ground := Ground.data }, { on := 1, ground := Ground.chain }, { on := 0, ground := Ground.phase }, { on := 1, ground := Ground.phase }, { on := 2, ground := Ground.phase }, { on := 3, ground := Ground.phase }, { on := 4, ground := Ground.phase }, { on := 5, ground := Ground.phase }, { on := 6, ground := Ground.phase }, { on := 7, ground := Ground.phase }, { on := 8, ground := Ground.phase }, { on := 9, ground := Ground.phase }, { on := 10, ground := Ground.phase }, { on := 11, ground := Ground.phase }, { on := 12, ground := Ground.phase }], guard := none } : Oper)) (v := ?_) rfl (by kernel_rfl) (by kernel_rfl) (by kernel_rfl) (fun _ _ _ h => h) (Or.inl ⟨by rfl, ?_⟩) (by assumption) ?_
              rotate_left 1
              · intro w hSw; (try dsimp only at hSw); go_simp; try with_reducible rfl
              (try simp only [Act.put, List.setIfInBounds_toArray, List.set_cons_zero, List.set_cons_succ])
              refine wpAnyH_done (by kernel_rfl) ?_ _
              go_wp2
              go_roundw
              case rel => exact ⟨j + 1, d + 1, by omega, by go_num, by rw [mem_not HI.out Y.out YX.out], by simp⟩
              case measure => simp [intOf]; omega
        · obtain rfl : m = j := by omega
          have ht : out.take out.length = out := List.take_length
          rw [← MO.out, ht]
          cases hin : hasT out (strOfNums x.s)
          rotate_left 1
          · have E := addN_in hin
            have hown := HO.out
            have EE := Lib.hid E
            clear hin ht E
            rw [MO.out]
            go_wp2
            go_roundw
            case rel => exact ⟨k + 1, .slice A2 m c2, rfl, by omega, by go_num, by rw [EK.out, EE.out, ← MO.out]; exact HO.out, HB.out.trans (belowN_drewN _ _ _)⟩
            case measure => simp [intOf]; omega
          · have EE := Lib.hid (addN_not hin)
            clear hin ht
            rw [MO.out]
            have hown : (wr.drewN d).ownsRow w1.heap.size 9 1 (.slice A2 m c2) m (txtCells out) := by rw [← MO.out]; exact HO.out
            have HBd : Hid (Below w1.heap.size w1 (wr.drewN d)) := HB.out.trans (belowN_drewN _ _ _)
            have hg3 : (wr.drewN d).cell? ⟨(a2.add (k * 3)).block, (a2.add (k * 3)).off + 2, none⟩ = some (.string (strOfNums x.s)) := g3
            have hsz : w1.heap.size ≤ (wr.drewN d).heap.size := HBd.out.size
            generalize wr.drewN d = wd at hown HBd hg3 hsz ⊢
            go_wp2_with (at_builtin; refine wpList_append_own _ rfl (.tmp 42) (.tmp 48) 46 rfl w1.heap.size 9 i0 (.string ⟨#[]⟩) 1 16 Tryd.underlying46 hi0 hz0 hz1 hz2 rfl (by decide) _ _ _ rfl (hown.alloc _) ⟨wd.heap.size, 0, none⟩ 1 1 [.string (strOfNums x.s)] rfl rfl (cell_one_new _ _ _) (by simp [Value.oneCell']) (by unfold maxLen; omega) (by omega) (by simp; omega) ?_)
            intro v' w3 hown' hgrow _
            have HB3 := Lib.hid ((HBd.out.alloc hsz _).grown hgrow (by simp; omega) (fun g hg => (hown.lt g hg).1))
            have hown3 : w3.ownsRow w1.heap.size 9 1 v' (out ++ [strOfNums x.s]).length (txtCells (out ++ [strOfNums x.s])) := by
              rw [List.length_append, MO.out, txtCells_snoc2]; exact hown'
            have HO3 := Lib.hid hown3
            clear hown' hgrow hown hown3
            go_wp2
            go_roundw
            case rel => exact ⟨k + 1, v', rfl, by omega, by go_num, by rw [EK.out, EE.out]; exact HO3.out, HB3.out⟩
            case measure => simp [intOf]; omega
    · obtain rfl : k = n := by omega
      have ht : r.take r.length = r := List.take_length
      rw [← NS.out, ht] at HO
      obtain ⟨A2, c2, hv⟩ := own_shapeA HO.out
      rw [hv] at HO
      subst hv
      have TO := Lib.hid (TsAt.of_own HO.out)
      clear HO ht
      go_wp2
      go_ret
      rw [NN.out]
      exact ⟨A2, c2, rfl, TO.out, H1.out.trans (HB.out.mono H1.out.size)⟩
end Go.Proofs.YtkeclfhhilphpaaDoor
