/- The contract of narthexref40.Names: it tells names, each of bounded texts. Conditions: an event that is not great. -/
import Derived.Test.YtdhgkbghlkhfeaaEvGreat
import Derived.Test.YtdhgkbghlkhfeaaDiffPath
import Derived.Maps.AppendAt
namespace Go.Proofs.Ytdhgkbghlkhfeaa
open Go.RowKit
theorem Try.infoName : (Try.prog.info? 28).map (fun i => (i.zero, i.size, i.bytes)) = some (some (.agg #[.string ⟨#[]⟩, .string ⟨#[]⟩]), 2, 32) := by kernel_rfl
/-- The cells of names. -/
def nmCells (l : List (ByteArray × ByteArray)) : List Value := l.flatMap fun p => [.string p.1, .string p.2]
theorem nmCells_len (l : List (ByteArray × ByteArray)) : (nmCells l).length = l.length * 2 := by
  induction l with
  | nil => rfl
  | cons p l ih => simp only [nmCells, List.flatMap_cons, List.length_append, List.length_cons, List.length_nil] at *; omega
theorem nmCells_snoc (l : List (ByteArray × ByteArray)) (p : ByteArray × ByteArray) : nmCells (l ++ [p]) = nmCells l ++ [.string p.1, .string p.2] := by simp [nmCells]
theorem nmCells_at (l : List (ByteArray × ByteArray)) (k : Nat) (p : ByteArray × ByteArray) (h : l[k]? = some p) : (nmCells l)[k * 2]? = some (.string p.1) ∧ (nmCells l)[k * 2 + 1]? = some (.string p.2) := by
  induction l generalizing k with
  | nil => simp at h
  | cons q l ih =>
    cases k with
    | zero => simp at h; subst h; exact ⟨rfl, rfl⟩
    | succ k =>
      have h1 := ih k (by simpa using h)
      have e : nmCells (q :: l) = .string q.1 :: .string q.2 :: nmCells l := rfl
      rw [e, show (k + 1) * 2 = k * 2 + 2 by omega, show k * 2 + 2 + 1 = k * 2 + 1 + 2 by omega]
      exact h1
/-- A row of names in memory. -/
def NamesAt (w : World) (A : Option Addr) (n : Nat) (l : List (ByteArray × ByteArray)) : Prop :=
  l.length = n ∧ ∀ k, k < n → ∃ a p, A = some a ∧ l[k]? = some p ∧ a.block < w.heap.size ∧ w.cell? (a.add (k * 2)) = some (.string p.1) ∧ w.cell? ⟨(a.add (k * 2)).block, (a.add (k * 2)).off + 1, none⟩ = some (.string p.2)
theorem NamesAt.below {w w' : World} {A : Option Addr} {n : Nat} {l : List (ByteArray × ByteArray)} (h : NamesAt w A n l) (hb : Below w.heap.size w w') : NamesAt w' A n l :=
  ⟨h.1, fun k hk => by
    obtain ⟨a, p, h1, h2, h3, h4, h5⟩ := h.2 k hk
    exact ⟨a, p, h1, h2, Nat.lt_of_lt_of_le h3 hb.size, (hb.cell (by rw [addBlock]; exact h3)).trans h4, (hb.cell (p := ⟨(a.add (k * 2)).block, (a.add (k * 2)).off + 1, none⟩) (by show (a.add (k * 2)).block < _; rw [addBlock]; exact h3)).trans h5⟩⟩
theorem NamesAt.of_own {w : World} {base : Nat} {e : TypeId} {A : Option Addr} {c : Nat} {l : List (ByteArray × ByteArray)} (h : w.ownsRow base e 2 (.slice A l.length c) l.length (nmCells l)) : NamesAt w A l.length l := by
  refine ⟨rfl, fun k hk => ?_⟩
  rcases h.2 with ⟨_, h2⟩ | ⟨g, cap, cur, hv, hg, hh, _⟩
  · omega
  · cases hv
    have hx := List.getElem?_eq_getElem hk
    obtain ⟨h1, h2⟩ := nmCells_at l k _ hx
    refine ⟨⟨g, 0, none⟩, l[k], rfl, hx, (h.lt g rfl).2, h.cells rfl (k * 2) _ h1, ?_⟩
    have e : (⟨((⟨g, 0, none⟩ : Addr).add (k * 2)).block, ((⟨g, 0, none⟩ : Addr).add (k * 2)).off + 1, none⟩ : Addr) = (⟨g, 0, none⟩ : Addr).add (k * 2 + 1) := by
      unfold Addr.add; by_cases h0 : k * 2 = 0 <;> simp [h0]
    rw [e]
    exact h.cells rfl (k * 2 + 1) _ h2
/-- The names of bounded texts. -/
def Small (l : List (ByteArray × ByteArray)) : Prop := ∀ p ∈ l, p.1.size ≤ 1048576 ∧ p.2.size ≤ 1048576
theorem Small.snoc {l : List (ByteArray × ByteArray)} (h : Small l) (p : ByteArray × ByteArray) (h1 : p.1.size ≤ 1048576) (h2 : p.2.size ≤ 1048576) : Small (l ++ [p]) := by
  intro q hq
  rcases List.mem_append.1 hq with hq | hq
  · exact h q hq
  · simp at hq; subst hq; exact ⟨h1, h2⟩
def TellNames (w : World) (e : Ending) (w' : World) : Prop :=
  ∃ A c l, e = .returned (.slice A l.length c) ∧ l.length ≤ 2097153 ∧ l.length ≤ c ∧ c ≤ 9223372036854775807 ∧ NamesAt w' A l.length l ∧ Small l ∧ Below w.heap.size w w'
theorem twoCells (w : World) (x y : Value) (t : TypeId) : ∀ j u, [x, y][j]? = some u → (w.alloc (.cells #[x, y] t)).cell? ((⟨w.heap.size, 0, none⟩ : Addr).add j) = some u := by
  intro j u hj
  match j, hj with
  | 0, hj => simp at hj; subst hj; simp [Addr.add]
  | 1, hj => simp at hj; subst hj; simp [Addr.add]
  | (j + 2), hj => simp at hj
theorem twoOne (x y : ByteArray) : ∀ u ∈ [Value.string x, Value.string y], u.oneCell' = true := by
  intro u hu; simp at hu; rcases hu with rfl | rfl <;> rfl
set_option maxRecDepth 100000 in
set_option maxHeartbeats 4000000 in
theorem names_any (e : Ev) (w : World) (hok : EvOk w e) (hs : e.all ≤ 1048576) :
    Calls Try.prog 35 #[.agg #[.int .i64 e.k, .string e.sp, .string e.lo, .slice e.A e.n e.c, .string e.tx]] w (TellNames w) := by
  obtain ⟨i0, hi0, hz0, hz1, hz2⟩ := info_parts Try.infoName
  obtain ⟨W, hW, hB0, c0, c1, c2, c3, c4⟩ := evBox w e 31
  have L := Lib.hid (hok.1.below hB0)
  have hsz0 := hB0.size
  have hall : e.all = e.sp.size + e.lo.size + e.tx.size + atSum e.ats + e.n := rfl
  have hlen := hok.1.1
  have mem : ∀ (k : Nat) (x : At), e.ats[k]? = some x → x.sp.size ≤ 1048576 ∧ x.lo.size ≤ 1048576 := fun k x hx => by
    have h1 := atSum_mem hx
    have h2 : x.size = x.sp.size + x.lo.size + x.va.size := rfl
    omega
  have MEM := Lib.hid mem
  have B0 := Lib.hid hB0
  clear hok hB0 mem
  have kinds : (e.k == 1) = true ∨ ((e.k == 1) = false ∧ (e.k == 2) = true) ∨ ((e.k == 1) = false ∧ (e.k == 2) = false ∧ (e.k == 4) = true) ∨ ((e.k == 1) = false ∧ (e.k == 2) = false ∧ (e.k == 4) = false) := by
    cases (e.k == 1) <;> cases (e.k == 2) <;> cases (e.k == 4) <;> simp
  have B1 := Lib.hid (show w.heap.size < W.heap.size by rw [← hW]; simp)
  have C3 := Lib.hid c3
  rcases kinds with q1 | ⟨q1, q2⟩ | ⟨q1, q2, q4⟩ | ⟨q1, q2, q4⟩
  case inr.inr.inr =>
    go_enter Try.func35, Try.ntmps35
    go_wp2
    go_loopw [3, 4] (fun v i wr => ∃ (k : Nat) (l : List (ByteArray × ByteArray)), k ≤ e.n ∧ i = .int .i64 k ∧ l.length ≤ k + 1 ∧ Hid (wr.ownsRow W.heap.size 28 2 v l.length (nmCells l)) ∧ Hid (Small l) ∧ Hid (Below W.heap.size W wr)) (fun _ i _ => e.n - (intOf i).toNat)
    case atStart => exact ⟨0, [], by omega, rfl, by simp, World.ownsRow_nil _ _ _ _, fun p hp => (by simp at hp), Below.refl _ _⟩
    case round =>
      obtain ⟨k, l, hk, rfl, hll, HO, SM, HB⟩ := hrel
      have k3 := (HB.out.cell (p := ⟨w.heap.size, 3, none⟩) B1.out).trans C3.out
      obtain ⟨A2, c2, rfl⟩ := ownRow_shape HO.out
      by_cases hlt : k < e.n
      · obtain ⟨a, x, hA, hx, hxa⟩ := L.out.2 k hlt
        obtain ⟨hxb, g0, g1, g2⟩ := hxa.below HB.out hxa.1
        have hm := MEM.out k x hx
        have b0 : (0 : Int) ≤ (k : Int) := by omega
        have b1 : (k : Int) < (e.n : Int) := by omega
        have hsz := HB.out.size
        rw [hA] at k3
        clear hx hxa hxb hA
        go_wp2_with (at_builtin; refine wpList_append_own_at _ rfl (.tmp 30) (.tmp 37) 51 rfl W.heap.size 28 i0 (.agg #[.string ⟨#[]⟩, .string ⟨#[]⟩]) 2 32 Try.underlying51 hi0 hz0 hz1 hz2 rfl (by decide) _ _ _ rfl (HO.out.alloc _) ⟨wr.heap.size, 0, none⟩ 1 1 [.string x.sp, .string x.lo] rfl rfl (twoCells _ _ _ _) (twoOne _ _) ?k3 ?k4 ?k5 ?_)
        case k3 => unfold maxLen; omega
        case k4 => omega
        case k5 => simp; omega
        intro v' w2 hown' hgrow _ hblk
        have HO3 := Lib.hid hown'
        have HB3 := Lib.hid ((HB.out.alloc hsz _).grown hgrow (by simp; omega) (fun g hg => (HO.out.lt g hg).1))
        clear hown' hgrow hblk
        go_wp2
        go_roundw
        case rel => exact ⟨k + 1, l ++ [(x.sp, x.lo)], by omega, by go_num, by simp; omega, by show World.ownsRow _ _ _ _ _ _ _; rw [nmCells_snoc, List.length_append]; exact HO3.out, SM.out.snoc _ hm.1 hm.2, HB3⟩
        case measure => simp [intOf]; omega
      · obtain rfl : k = e.n := by omega
        obtain ⟨hc1, hc2, _⟩ := ownRow_cap HO.out
        go_wp2
        go_ret
        exact ⟨A2, c2, l, rfl, by omega, hc1, hc2, NamesAt.of_own HO.out, SM.out, B0.out.trans (HB.out.mono hsz0)⟩
  all_goals
    go_enter Try.func35, Try.ntmps35
    go_wp2_with (at_builtin; refine wpList_append_own_at _ rfl (.tmp 18) (.tmp 21) 51 rfl W.heap.size 28 i0 (.agg #[.string ⟨#[]⟩, .string ⟨#[]⟩]) 2 32 Try.underlying51 hi0 hz0 hz1 hz2 rfl (by decide) (.slice none 0 0) 0 [] rfl (World.ownsRow_nil _ _ _ _) ⟨W.heap.size, 0, none⟩ 1 1 [.string e.sp, .string e.lo] rfl rfl (twoCells _ _ _ _) (twoOne _ _) ?k3 ?k4 ?k5 ?_)
    case k3 => unfold maxLen; omega
    case k4 => omega
    case k5 => simp
    intro v' w2 hown' hgrow _ hblk
    have HO2 := Lib.hid hown'
    have HB2 := Lib.hid (((Below.refl W.heap.size W).alloc (Nat.le_refl _) _).grown hgrow (by simp) (fun g hg => by cases hg))
    have c3' := (HB2.out.cell (p := ⟨w.heap.size, 3, none⟩) B1.out).trans C3.out
    have SM2 := Lib.hid (show Small [(e.sp, e.lo)] from fun p hp => by simp at hp; subst hp; exact ⟨by show e.sp.size ≤ _; omega, by show e.lo.size ≤ _; omega⟩)
    clear hown' hgrow hblk
    go_wp2
    go_loopw [3, 4] (fun v i wr => ∃ (k : Nat) (l : List (ByteArray × ByteArray)), k ≤ e.n ∧ i = .int .i64 k ∧ l.length ≤ k + 1 ∧ Hid (wr.ownsRow W.heap.size 28 2 v l.length (nmCells l)) ∧ Hid (Small l) ∧ Hid (Below W.heap.size W wr)) (fun _ i _ => e.n - (intOf i).toNat)
    case atStart => exact ⟨0, [(e.sp, e.lo)], by omega, rfl, by simp, HO2, SM2, HB2⟩
    case round =>
      obtain ⟨k, l, hk, rfl, hll, HO, SM, HB⟩ := hrel
      have k3 := (HB.out.cell (p := ⟨w.heap.size, 3, none⟩) B1.out).trans C3.out
      obtain ⟨A2, c2, rfl⟩ := ownRow_shape HO.out
      by_cases hlt : k < e.n
      · obtain ⟨a, x, hA, hx, hxa⟩ := L.out.2 k hlt
        obtain ⟨hxb, g0, g1, g2⟩ := hxa.below HB.out hxa.1
        have hm := MEM.out k x hx
        have b0 : (0 : Int) ≤ (k : Int) := by omega
        have b1 : (k : Int) < (e.n : Int) := by omega
        have hsz := HB.out.size
        rw [hA] at k3
        clear hx hxa hxb hA
        go_wp2_with (at_builtin; refine wpList_append_own_at _ rfl (.tmp 30) (.tmp 37) 51 rfl W.heap.size 28 i0 (.agg #[.string ⟨#[]⟩, .string ⟨#[]⟩]) 2 32 Try.underlying51 hi0 hz0 hz1 hz2 rfl (by decide) _ _ _ rfl (HO.out.alloc _) ⟨wr.heap.size, 0, none⟩ 1 1 [.string x.sp, .string x.lo] rfl rfl (twoCells _ _ _ _) (twoOne _ _) ?k3 ?k4 ?k5 ?_)
        case k3 => unfold maxLen; omega
        case k4 => omega
        case k5 => simp; omega
        intro v' w2 hown' hgrow _ hblk
        have HO3 := Lib.hid hown'
        have HB3 := Lib.hid ((HB.out.alloc hsz _).grown hgrow (by simp; omega) (fun g hg => (HO.out.lt g hg).1))
        clear hown' hgrow hblk
        go_wp2
        go_roundw
        case rel => exact ⟨k + 1, l ++ [(x.sp, x.lo)], by omega, by go_num, by simp; omega, by show World.ownsRow _ _ _ _ _ _ _; rw [nmCells_snoc, List.length_append]; exact HO3.out, SM.out.snoc _ hm.1 hm.2, HB3⟩
        case measure => simp [intOf]; omega
      · obtain rfl : k = e.n := by omega
        obtain ⟨hc1, hc2, _⟩ := ownRow_cap HO.out
        go_wp2
        go_ret
        exact ⟨A2, c2, l, rfl, by omega, hc1, hc2, NamesAt.of_own HO.out, SM.out, B0.out.trans (HB.out.mono hsz0)⟩
end Go.Proofs.Ytdhgkbghlkhfeaa
