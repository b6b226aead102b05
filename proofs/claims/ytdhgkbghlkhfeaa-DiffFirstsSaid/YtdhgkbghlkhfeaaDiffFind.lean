/- The contract of diff.Find: where a path begins. Conditions: at most 2^40 events. -/
import Derived.Test.YtdhgkbghlkhfeaaDiffRows
namespace Go.Proofs.Ytdhgkbghlkhfeaa
open Go.RowKit
theorem Try.infoIntD : (Try.prog.info? 3).map (fun i => (i.zero, i.size, i.bytes)) = some (some (.int .i64 0), 1, 8) := by kernel_rfl
/-- The places, of the first k events, at which an element of that path begins. -/
def findK (l : List Ev) (path : List ByteArray) : Nat → List Int
  | 0 => []
  | k + 1 => findK l path k ++ (match l[k]? with | some e => if e.k = 1 ∧ pathP (l.take (k + 1)) = path then [(k : Int)] else [] | none => [])
theorem findK_len (l : List Ev) (path : List ByteArray) (k : Nat) : (findK l path k).length ≤ k := by
  induction k with
  | zero => simp [findK]
  | succ k ih =>
    unfold findK
    rw [List.length_append]
    have : (match l[k]? with | some e => if e.k = 1 ∧ pathP (l.take (k + 1)) = path then [(k : Int)] else [] | none => []).length ≤ 1 := by
      split
      · split <;> simp
      · simp
    omega
theorem findK_yes {l : List Ev} {path : List ByteArray} {k : Nat} {e : Ev} (hx : l[k]? = some e) (h : e.k = 1 ∧ pathP (l.take (k + 1)) = path) : findK l path (k + 1) = findK l path k ++ [(k : Int)] := by
  show findK l path k ++ _ = _
  rw [hx]; simp only [if_pos h]
theorem findK_no {l : List Ev} {path : List ByteArray} {k : Nat} {e : Ev} (hx : l[k]? = some e) (h : ¬ (e.k = 1 ∧ pathP (l.take (k + 1)) = path)) : findK l path (k + 1) = findK l path k := by
  show findK l path k ++ _ = _
  rw [hx]; simp only [if_neg h, List.append_nil]
theorem numCell_new (w : World) (x : Value) (t : TypeId) : ∀ j u, [x][j]? = some u → (w.alloc (.cells #[x] t)).cell? ((⟨w.heap.size, 0, none⟩ : Addr).add j) = some u := strCell_new w x t
def TellInts (l : List Int) (w : World) (e : Ending) (w' : World) : Prop :=
  ∃ A c, e = .returned (.slice A l.length c) ∧ IntsAt w' A l.length l ∧ Below w.heap.size w w'
theorem block_lt {w : World} {base n size : Nat} {e : TypeId} {v : Value} {xs : List Value} (h : w.ownsRow base e size v n xs) : ∀ g, v.ownBlock = some g → g < w.heap.size := fun g hg => (h.lt g hg).2
/-- Two rows of the call's own, in blocks of their own. -/
def Apart (u v : Value) : Prop := u.ownBlock = none ∨ u.ownBlock ≠ v.ownBlock
theorem Apart.symm' {u v : Value} (h : Apart u v) : Apart v u := by
  unfold Apart at *
  rcases h with h | h
  · cases hv : v.ownBlock with
    | none => exact .inl rfl
    | some g => exact .inr (by rw [h]; simp)
  · exact .inr h.symm
/-- The one goes on; what it has become is apart from the other. -/
theorem Apart.next {w : World} {u v v' : Value} (h : Apart u v) (hu : ∀ g, u.ownBlock = some g → g < w.heap.size) (hv : v'.ownBlock = v.ownBlock ∨ ∃ g, v'.ownBlock = some g ∧ w.heap.size ≤ g) : Apart u v' := by
  unfold Apart at *
  cases hb : u.ownBlock with
  | none => exact .inl rfl
  | some g =>
    refine .inr ?_
    rcases hv with hv | ⟨k, hk, hle⟩
    · rw [hv, ← hb]; rcases h with h | h
      · rw [h] at hb; cases hb
      · exact h
    · rw [hk]; intro heq
      have h9 := Option.some.inj heq
      have := hu g hb; omega
set_option maxHeartbeats 4000000 in
theorem find_any (A : Option Addr) (n c : Nat) (l : List Ev) (A' : Option Addr) (n' c' : Nat) (path : List ByteArray) (w : World) (hl : EvsAt w A n l) (hn : n ≤ 1099511627776) (hp : StrsAt w A' n' path) :
    Calls Try.prog 19 #[.slice A n c, .slice A' n' c'] w (TellInts (findK l path n) w) := by
  obtain ⟨i0, hi0, hz0, hz1, hz2⟩ := info_parts Try.infoIntD
  have L := Lib.hid hl
  have PA := Lib.hid hp
  clear hl hp
  go_enter Try.func19, Try.ntmps19
  go_wp2
  go_loopw [5, 6, 11] (fun o v i wr => ∃ (k : Nat), k ≤ n ∧ i = .int .i64 k ∧ Hid (wr.ownsRow w.heap.size 3 1 o (findK l path k).length (numCells (findK l path k))) ∧ Hid (wr.ownsRow w.heap.size 9 1 v (pathP (l.take k)).length (strCells (pathP (l.take k)))) ∧ Hid (Apart o v) ∧ Hid (Below w.heap.size w wr)) (fun _ _ i _ => n - (intOf i).toNat)
  case atStart => exact ⟨0, by omega, rfl, World.ownsRow_nil _ _ _ _, World.ownsRow_nil _ _ _ _, .inl rfl, Below.refl _ _⟩
  case round =>
    obtain ⟨k, hk', rfl, HI, HO, HA, HB⟩ := hrel
    by_cases hlt : k < n
    · obtain ⟨a, e, hA, hx, he, hok⟩ := L.out.2 k (by omega)
      subst hA
      have b0 : (0 : Int) ≤ (k : Int) := by omega
      have b1 : (k : Int) < (n : Int) := by omega
      have T := Lib.hid (pathP_succ l k e hx)
      have hpl := pathP_len l k
      have hpl2 := pathP_len l (k + 1)
      have hfl := findK_len l path k
      obtain ⟨_, g0, g1, g2, g3, g4⟩ := he.below HB.out he.1
      obtain ⟨W, hW, hB0, c0, c1, c2, c3, c4⟩ := evBox wr e 31
      have HO1 := ownRow_below HO.out hB0
      have HI1 := ownRow_below HI.out hB0
      have HB1 := HB.out.trans (hB0.mono HB.out.size)
      have hsz := HB1.size
      have hb6 := block_lt HO.out
      have X := Lib.hid hx
      clear hx he hok HO HI
      go_wp2_with fail
      refine (step_any w.heap.size _ _ e _ hsz (by omega) HO1).mono ?_
      rintro x w2 ⟨v', rfl, hrow, hB2, hG2, hV2⟩
      have HI2 := HI1.kept hG2 HA.out
      have HB2 := HB1.trans hB2
      have HA2 := HA.out.next (block_lt HI1) hV2
      rw [← T.out] at hrow
      have hk0 := hG2.cell c0 (by intro heq; have := hb6 _ heq.symm; simp at this)
      have PA2 := Lib.hid (PA.out.below (HB2.mono (Nat.le_refl _)))
      obtain ⟨A6, c6, hv6⟩ := ownRow_shape hrow
      obtain ⟨A5, c5, hv5⟩ := ownRow_shape HI2
      subst hv6 hv5
      obtain ⟨hc61, hc62, _⟩ := ownRow_cap hrow
      have SA := Lib.hid (StrsAt.of_own hrow)
      have HRow := Lib.hid hrow
      have HI3 := Lib.hid HI2
      have HA3 := Lib.hid HA2
      have HB3 := Lib.hid HB2
      have hsz2 : w.heap.size ≤ w2.heap.size := HB2.size
      clear hrow HI2 HA2 HB2 hB2 hG2 hV2 HO1 HI1 HB1 hB0 c0 c1 c2 c3 c4 HA hW hb6
      by_cases h1 : e.k = 1
      · have q1 : (e.k == 1) = true := by simpa using h1
        by_cases hpath : pathP (l.take (k + 1)) = path
        · have F := Lib.hid (findK_yes X.out ⟨h1, hpath⟩)
          have PD := Lib.hid (decide_eq_true hpath)
          clear h1 hpath
          go_wp2_with fail
          refine (equalStrs_any A6 _ c6 _ A' n' c' path _ SA.out PA2.out (by omega)).mono ?_
          rintro x w3 ⟨rfl, d, rfl⟩
          rw [PD.out]
          have HI4 := ownRow_below HI3.out (below_drewN _ _ d)
          have HR4 := ownRow_below HRow.out (below_drewN _ _ d)
          have HB4 := HB3.out.trans (below_drewN _ _ d)
          have hsz4 := HB4.size
          generalize w2.drewN d = W4 at *
          clear hk0
          go_wp2_with (at_builtin; refine wpList_append_own_at _ rfl (.tmp 27) (.tmp 29) 45 rfl w.heap.size 3 i0 (.int .i64 0) 1 8 Try.underlying45 hi0 hz0 hz1 hz2 rfl (by decide) _ _ _ rfl (HI4.alloc _) ⟨W4.heap.size, 0, none⟩ 1 1 [.int .i64 k] rfl rfl (numCell_new _ _ _) ?k2 ?k3 ?k4 ?k5 ?_)
          case k2 => (first | rfl | (intro u hu; simp at hu; subst hu; rfl))
          case k3 => unfold maxLen; omega
          case k4 => omega
          case k5 => (first | omega | (simp; omega))
          intro o' w5 hown' hgrow _ hblk
          have HB5 := (HB4.alloc hsz4 _).grown hgrow (by simp; omega) (fun g hg => (HI4.lt g hg).1)
          have HR5 := (HR4.alloc (.cells #[.int .i64 k] 3)).kept hgrow (Apart.symm' HA3.out)
          have HA5 := Lib.hid ((Apart.symm' HA3.out).next (block_lt (HR4.alloc (.cells #[.int .i64 k] 3))) (hblk.imp id fun h => ⟨_, h, by simp⟩)).symm'
          go_wp2
          go_roundw
          case rel =>
            refine ⟨k + 1, by omega, by go_num, ?_, HR5, HA5, HB5⟩
            show World.ownsRow _ _ _ _ _ _ _
            rw [F.out, List.length_append, show numCells (findK l path k ++ [(k : Int)]) = numCells (findK l path k) ++ [.int .i64 k] by unfold numCells; simp]
            exact hown'
          case measure => simp [intOf]; omega
        · have F := Lib.hid (findK_no (path := path) X.out (fun h => hpath h.2))
          have PD := Lib.hid (decide_eq_false hpath)
          clear h1 hpath
          go_wp2_with fail
          refine (equalStrs_any A6 _ c6 _ A' n' c' path _ SA.out PA2.out (by omega)).mono ?_
          rintro x w3 ⟨rfl, d, rfl⟩
          rw [PD.out]
          have HI4 := ownRow_below HI3.out (below_drewN _ _ d)
          have HR4 := ownRow_below HRow.out (below_drewN _ _ d)
          have HB4 := HB3.out.trans (below_drewN _ _ d)
          generalize w2.drewN d = W4 at *
          clear hk0
          go_wp2
          go_roundw
          case rel => exact ⟨k + 1, by omega, by go_num, by show World.ownsRow _ _ _ _ _ _ _; rw [F.out]; exact HI4, HR4, HA3, HB4⟩
          case measure => simp [intOf]; omega
      · have q1 : (e.k == 1) = false := by simpa using h1
        have F := Lib.hid (findK_no (path := path) X.out (fun h => h1 h.1))
        clear h1
        go_wp2
        go_roundw
        case rel => exact ⟨k + 1, by omega, by go_num, by show World.ownsRow _ _ _ _ _ _ _; rw [F.out]; exact HI3.out, HRow.out, HA3, HB3.out⟩
        case measure => simp [intOf]; omega
    · obtain rfl : k = n := by omega
      obtain ⟨A5, c5, hv5⟩ := ownRow_shape HI.out
      subst hv5
      go_wp2
      go_ret
      exact ⟨A5, c5, rfl, IntsAt.of_own HI.out, HB.out⟩
end Go.Proofs.Ytdhgkbghlkhfeaa
