/- The contracts of diff.step and diff.Path: what is open ahead of a place. Conditions: at most 2^40 events. -/
import Derived.Test.YtlifdmehejehjaaDoorEvSame
import Derived.WalkSmall
import Derived.Maps.AppendAt
namespace Go.Proofs.YtlifdmehejehjaaDoor
open Go.RowKit
theorem Tryd.infoStr : (Tryd.prog.info? 9).map (fun i => (i.zero, i.size, i.bytes)) = some (some (.string ⟨#[]⟩), 1, 16) := by kernel_rfl
def strCells (l : List ByteArray) : List Value := l.map Value.string
def stepP (p : List ByteArray) (e : Ev) : List ByteArray := if e.k = 1 then p ++ [e.lo] else if e.k = 2 then p.dropLast else p
def pathP (l : List Ev) : List ByteArray := l.foldl stepP []
theorem stepP_len (p : List ByteArray) (e : Ev) : (stepP p e).length ≤ p.length + 1 := by unfold stepP; split <;> (try split) <;> simp <;> omega
theorem pathP_succ (l : List Ev) (k : Nat) (e : Ev) (h : l[k]? = some e) : pathP (l.take (k + 1)) = stepP (pathP (l.take k)) e := by
  unfold pathP; rw [List.take_add_one, h]; simp [List.foldl_append]
theorem pathP_len (l : List Ev) : ∀ k, (pathP (l.take k)).length ≤ k := by
  intro k
  induction k with
  | zero => simp [pathP]
  | succ k ih =>
    cases h : l[k]? with
    | none =>
      have h1 : l.length ≤ k := List.getElem?_eq_none_iff.1 h
      have h2 : l.take (k + 1) = l.take k := by rw [List.take_of_length_le (by omega), List.take_of_length_le h1]
      rw [h2]; omega
    | some e => rw [pathP_succ l k e h]; have := stepP_len (pathP (l.take k)) e; omega
/-- A row of strings. -/
def StrsAt (w : World) (A : Option Addr) (n : Nat) (xs : List ByteArray) : Prop :=
  xs.length = n ∧ ∀ k, k < n → ∃ a s, A = some a ∧ xs[k]? = some s ∧ a.block < w.heap.size ∧ w.cell? (a.add k) = some (.string s)
theorem StrsAt.below {w w' : World} {A : Option Addr} {n : Nat} {xs : List ByteArray} (h : StrsAt w A n xs) (hb : Below w.heap.size w w') : StrsAt w' A n xs :=
  ⟨h.1, fun k hk => by
    obtain ⟨a, s, h1, h2, h3, h4⟩ := h.2 k hk
    exact ⟨a, s, h1, h2, Nat.lt_of_lt_of_le h3 hb.size, (hb.cell (by rw [addBlock]; exact h3)).trans h4⟩⟩
theorem StrsAt.of_own {w : World} {base : Nat} {e : TypeId} {A : Option Addr} {c : Nat} {xs : List ByteArray} (h : w.ownsRow base e 1 (.slice A xs.length c) xs.length (strCells xs)) : StrsAt w A xs.length xs := by
  refine ⟨rfl, fun k hk => ?_⟩
  rcases h.2 with ⟨_, h2⟩ | ⟨g, cap, cur, hv, hg, hh, _⟩
  · omega
  · cases hv
    refine ⟨⟨g, 0, none⟩, xs[k], rfl, List.getElem?_eq_getElem hk, ?_, ?_⟩
    · exact (h.lt g rfl).2
    · exact h.cells rfl k _ (by unfold strCells; rw [List.getElem?_map, List.getElem?_eq_getElem hk]; rfl)
theorem ownRow_below {w w' : World} {base : Nat} {e : TypeId} {size : Nat} {v : Value} {n : Nat} {xs : List Value} (h : w.ownsRow base e size v n xs) (hb : Below w.heap.size w w') : w'.ownsRow base e size v n xs := by
  refine ⟨h.1, ?_⟩
  rcases h.2 with h2 | ⟨g, cap, cur, hv, hg, hh, r⟩
  · exact .inl h2
  · refine .inr ⟨g, cap, cur, hv, hg, ?_, r⟩
    rcases Nat.lt_or_ge g w.heap.size with hlt | hge
    · rw [hb.block g hlt]; exact hh
    · rw [Array.getElem?_eq_none hge] at hh; cases hh
theorem ownRow_shape {w : World} {base size n : Nat} {e : TypeId} {v : Value} {xs : List Value} (h : w.ownsRow base e size v n xs) : ∃ A c, v = .slice A n c := by
  rcases h.2 with ⟨h1, h2⟩ | ⟨g, cap, cur, hv, _⟩
  · exact ⟨none, 0, by rw [h1, h2]⟩
  · exact ⟨_, cap, hv⟩
theorem ownRow_cap {w : World} {base size n m c : Nat} {e : TypeId} {A : Option Addr} {xs : List Value} (h : w.ownsRow base e size (.slice A m c) n xs) : n ≤ c ∧ c ≤ 9223372036854775807 ∧ m = n := by
  rcases h.2 with ⟨h1, h2⟩ | ⟨g, cap, cur, h1, _, _, h3, h4, _⟩
  · cases h1; omega
  · cases h1; unfold maxLen at h4; omega
theorem strCell_new (w : World) (x : Value) (t : TypeId) : ∀ j u, [x][j]? = some u → (w.alloc (.cells #[x] t)).cell? ((⟨w.heap.size, 0, none⟩ : Addr).add j) = some u := by
  intro j u hj
  match j, hj with
  | 0, hj => simp at hj; subst hj; simp [Addr.add]
  | (j + 1), hj => simp at hj
theorem below_grown {w W : World} (h : Below w.heap.size w W) (row : Option Nat) : w.grownBy W row := ⟨h.os, h.tape, h.output, h.size, fun k hk _ => h.block k hk⟩
theorem grown_trans {w W V : World} {row : Option Nat} (h : w.grownBy W row) (h2 : W.grownBy V row) : w.grownBy V row :=
  ⟨h2.os.trans h.os, h2.tape.trans h.tape, h2.output.trans h.output, Nat.le_trans h.size h2.size, fun k hk hne => (h2.block k (Nat.lt_of_lt_of_le hk h.size) hne).trans (h.block k hk hne)⟩
/-- A row of strings, made of one of v: its own block is v's, or a new one; no other block has turned. -/
def TellRow (base : Nat) (v : Value) (p : List ByteArray) (w : World) (e : Ending) (w' : World) : Prop :=
  ∃ v', e = .returned v' ∧ w'.ownsRow base 9 1 v' p.length (strCells p) ∧ Below base w w' ∧ w.grownBy w' v.ownBlock ∧ (v'.ownBlock = v.ownBlock ∨ ∃ g, v'.ownBlock = some g ∧ w.heap.size ≤ g)
set_option maxHeartbeats 2000000 in
theorem step_any (base : Nat) (p : List ByteArray) (v : Value) (e : Ev) (w : World) (hb : base ≤ w.heap.size) (hp : p.length ≤ 1099511627776) (hrow : w.ownsRow base 9 1 v p.length (strCells p)) :
    Calls Tryd.prog 40 #[v, .agg #[.int .i64 e.k, .string e.sp, .string e.lo, .slice e.A e.n e.c, .string e.tx]] w (TellRow base v (stepP p e) w) := by
  obtain ⟨i0, hi0, hz0, hz1, hz2⟩ := info_parts Tryd.infoStr
  obtain ⟨W, hW, hB0, c0, c1, c2, c3, c4⟩ := evBox w e 40
  have HO := ownRow_below hrow hB0
  have HB := hB0.mono hb
  have hsz : base ≤ W.heap.size := Nat.le_trans hb hB0.size
  obtain ⟨A, c, rfl⟩ := ownRow_shape hrow
  obtain ⟨hc1, hc2, _⟩ := ownRow_cap hrow
  have hG0 := fun row => below_grown hB0 row
  clear hrow hB0
  by_cases h1 : e.k = 1
  · have e1 : stepP p e = p ++ [e.lo] := by unfold stepP; rw [if_pos h1]
    have t1 : (e.k == 1) = true := by simpa using h1
    rw [e1]
    clear h1 e1
    go_enter Tryd.func40, Tryd.ntmps40
    go_wp2_with (at_builtin; refine wpList_append_own_at _ rfl (.tmp 9) (.tmp 13) 23 rfl base 9 i0 (.string ⟨#[]⟩) 1 16 Tryd.underlying23 hi0 hz0 hz1 hz2 rfl (by decide) _ _ _ rfl (HO.alloc _) ⟨W.heap.size, 0, none⟩ 1 1 [.string e.lo] rfl rfl (strCell_new _ _ _) ?k2 ?k3 ?k4 ?k5 ?_)
    case k2 => rfl
    case k3 => unfold maxLen; omega
    case k4 => omega
    case k5 => omega
    intro v' w2 hown' hgrow _ hblk
    have hB9 : Below W.heap.size W (W.alloc (.cells #[.string e.lo] 9)) := (Below.refl _ W).alloc (Nat.le_refl _) _
    have hG2 := grown_trans (hG0 (Value.slice A p.length c).ownBlock) (grown_trans (below_grown hB9 _) hgrow)
    have hS0 := (hG0 none).size
    have HB2 := (HB.alloc hsz _).grown hgrow (by simp; omega) (fun g hg => (HO.lt g hg).1)
    go_wp2
    go_ret
    refine ⟨v', rfl, ?_, HB2, hG2, hblk.imp id fun h => ⟨_, h, Nat.le_succ_of_le hS0⟩⟩
    rw [List.length_append]
    have : strCells (p ++ [e.lo]) = strCells p ++ [.string e.lo] := by unfold strCells; simp
    rw [this]
    exact hown'
  · have t1 : (e.k == 1) = false := by simpa using h1
    by_cases h2 : e.k = 2
    · have e1 : stepP p e = p.dropLast := by unfold stepP; rw [if_neg h1, if_pos h2]
      have t2 : (e.k == 2) = true := by simpa using h2
      rw [e1]
      clear h1 h2 e1
      rcases List.eq_nil_or_concat p with rfl | ⟨q, x, rfl⟩
      · go_enter Tryd.func40, Tryd.ntmps40
        go_wp2
        go_ret
        exact ⟨_, rfl, HO, HB, hG0 _, .inl rfl⟩
      · have hq : (q ++ [x]).length = q.length + 1 := by simp
        simp only [List.concat_eq_append] at *
        rw [hq] at HO hc1 hp
        obtain ⟨g, rfl⟩ : ∃ g, A = some ⟨g, 0, none⟩ := by
          rcases HO.2 with ⟨h, h'⟩ | ⟨g, cap, cur, h, _⟩
          · omega
          · cases h; exact ⟨g, rfl⟩
        have HP := ownsRow_pop (size := 1) (n := q.length) (xs := strCells q) (last := [.string x]) (by simp [strCells]) (by rw [show strCells q ++ [.string x] = strCells (q ++ [x]) by simp [strCells]]; exact HO)
        rw [hq]
        go_enter Tryd.func40, Tryd.ntmps40
        go_wp2
        go_ret
        rw [List.dropLast_concat]
        exact ⟨_, rfl, HP, HB, hG0 _, .inl rfl⟩
    · have e1 : stepP p e = p := by unfold stepP; rw [if_neg h1, if_neg h2]
      have t2 : (e.k == 2) = false := by simpa using h2
      rw [e1]
      clear h1 h2 e1
      go_enter Tryd.func40, Tryd.ntmps40
      go_wp2
      go_ret
      exact ⟨_, rfl, HO, HB, hG0 _, .inl rfl⟩
theorem clip_any (A : Option Addr) (n c : Nat) (w : World) (h1 : n ≤ c) (_h2 : c ≤ 9223372036854775807) :
    Calls Tryd.prog 41 #[.slice A n c] w fun e w' => e = .returned (.slice A n n) ∧ w = w' := by
  go_enter Tryd.func41, Tryd.ntmps41
  go_wp2
  go_ret
  exact ⟨rfl, rfl⟩
def TellPath (p : List ByteArray) (w : World) (e : Ending) (w' : World) : Prop :=
  ∃ A c, e = .returned (.tuple #[.slice A p.length c, .int .i64 0]) ∧ StrsAt w' A p.length p ∧ p.length ≤ c ∧ c ≤ p.length ∧ Below w.heap.size w w'
set_option maxHeartbeats 2000000 in
theorem path_any (A : Option Addr) (n c : Nat) (l : List Ev) (k0 : Nat) (w : World) (hl : EvsAt w A n l) (hn : n ≤ 1099511627776) (hc : n ≤ c) (hc2 : c ≤ 9223372036854775807) (hk : k0 ≤ n) :
    Calls Tryd.prog 28 #[.slice A n c, .int .i64 k0] w (TellPath (pathP (l.take k0)) w) := by
  have L := Lib.hid hl
  have LN := Lib.hid hl.1
  clear hl
  have t0 : ¬ ((k0 : Int) < 0) := by omega
  have t1 : ¬ n < k0 := by omega
  go_enter Tryd.func28, Tryd.ntmps28
  go_wp2
  go_loopw [6, 21] (fun v i wr => ∃ (k : Nat), k ≤ k0 ∧ i = .int .i64 k ∧ Hid (wr.ownsRow w.heap.size 9 1 v (pathP (l.take k)).length (strCells (pathP (l.take k)))) ∧ Hid (Below w.heap.size w wr)) (fun _ i _ => k0 - (intOf i).toNat)
  case atStart => exact ⟨0, by omega, rfl, World.ownsRow_nil _ _ _ _, Below.refl _ _⟩
  case round =>
    obtain ⟨k, hk', rfl, HO, HB⟩ := hrel
    by_cases hlt : k < k0
    · obtain ⟨a, e, hA, hx, he, hok⟩ := L.out.2 k (by omega)
      subst hA
      have b0 : (0 : Int) ≤ (k : Int) := by omega
      have b1 : (k : Int) < (k0 : Int) := by omega
      have hT := pathP_succ l k e hx
      have hpl := pathP_len l k
      obtain ⟨_, g0, g1, g2, g3, g4⟩ := he.below HB.out he.1
      have HO1 := ownRow_below HO.out ((Below.refl wr.heap.size wr).alloc (Nat.le_refl _) (.cells #[.int .i64 e.k, .string e.sp, .string e.lo, .slice e.A e.n e.c, .string e.tx] 40))
      have HB1 := HB.out.alloc HB.out.size (.cells #[.int .i64 e.k, .string e.sp, .string e.lo, .slice e.A e.n e.c, .string e.tx] 40)
      have hsz := HB1.size
      have T := Lib.hid hT
      clear hT hx he hok HO
      go_wp2_with fail
      refine (step_any w.heap.size _ _ e _ hsz (by omega) HO1).mono ?_
      rintro x w2 ⟨v', rfl, hrow, hB2, _, _⟩
      have HB2 := HB1.trans hB2
      go_wp2
      go_roundw
      case rel => exact ⟨k + 1, by omega, by go_num, by show World.ownsRow _ _ _ _ _ _ _; rw [T.out]; exact hrow, HB2⟩
      case measure => simp [intOf]; omega
    · obtain rfl : k = k0 := by omega
      obtain ⟨A2, c2, hv⟩ := ownRow_shape HO.out
      subst hv
      obtain ⟨h1, h2, _⟩ := ownRow_cap HO.out
      go_wp2_with fail
      refine (clip_any A2 _ c2 _ h1 h2).mono ?_
      rintro x w2 ⟨rfl, rfl⟩
      go_wp2
      go_ret2
      exact ⟨A2, _, rfl, StrsAt.of_own HO.out, Nat.le_refl _, Nat.le_refl _, HB.out⟩
theorem path_range (A : Option Addr) (n c : Nat) (at' : Int) (w : World) (hc2 : n ≤ 9223372036854775807) (h : at' < 0 ∨ (n : Int) < at') :
    Calls Tryd.prog 28 #[.slice A n c, .int .i64 at'] w fun e w' => e = .returned (.tuple #[.slice none 0 0, .int .i64 3]) ∧ w = w' := by
  rcases h with h | h
  · have t0 : decide (at' < 0) = true := by simpa using h
    go_enter Tryd.func28, Tryd.ntmps28
    go_wp2
    go_ret2
    exact ⟨rfl, rfl⟩
  · have t0 : decide (at' < 0) = false := by simp; omega
    have t1 : decide ((n : Int) < at') = true := by simpa using h
    go_enter Tryd.func28, Tryd.ntmps28
    go_wp2
    go_ret2
    exact ⟨rfl, rfl⟩
end Go.Proofs.YtlifdmehejehjaaDoor
