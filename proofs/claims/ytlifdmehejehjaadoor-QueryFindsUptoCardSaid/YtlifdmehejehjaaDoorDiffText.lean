/- The contracts of diff.Text and narthexref42.Text: all texts, one behind the other. Conditions: together at most 2^20 bytes. -/
import Derived.Test.YtlifdmehejehjaaDoorBuild
import Derived.Test.YtlifdmehejehjaaDoorShelf
import Derived.Test.YtlifdmehejehjaaDoorEvGreat
namespace Go.Proofs.YtlifdmehejehjaaDoor
open Go.RowKit
/-- The texts of the first k events. -/
def textK (l : List Ev) : Nat → ByteArray
  | 0 => ⟨#[]⟩
  | k + 1 => match l[k]? with | some e => if e.k = 3 then textK l k ++ e.tx else textK l k | none => textK l k
theorem textK_yes {l : List Ev} {k : Nat} {e : Ev} (hx : l[k]? = some e) (h : e.k = 3) : textK l (k + 1) = textK l k ++ e.tx := by
  show (match l[k]? with | some e => if e.k = 3 then textK l k ++ e.tx else textK l k | none => textK l k) = _
  rw [hx]; simp only [if_pos h]
theorem textK_no {l : List Ev} {k : Nat} {e : Ev} (hx : l[k]? = some e) (h : ¬ e.k = 3) : textK l (k + 1) = textK l k := by
  show (match l[k]? with | some e => if e.k = 3 then textK l k ++ e.tx else textK l k | none => textK l k) = _
  rw [hx]; simp only [if_neg h]
theorem textK_size (l : List Ev) (k : Nat) : (textK l k).size ≤ evSum (l.take k) := by
  induction k with
  | zero => exact Nat.zero_le _
  | succ k ih =>
    cases hx : l[k]? with
    | none =>
      have h1 : l.length ≤ k := List.getElem?_eq_none_iff.1 hx
      have h2 : l.take (k + 1) = l.take k := by rw [List.take_of_length_le (by omega), List.take_of_length_le h1]
      have h3 : textK l (k + 1) = textK l k := by
        show (match l[k]? with | some e => if e.k = 3 then textK l k ++ e.tx else textK l k | none => textK l k) = _
        rw [hx]
      rw [h2, h3]; exact ih
    | some e =>
      have h1 := evSum_take l k e hx
      by_cases h3 : e.k = 3
      · rw [textK_yes hx h3, ByteArray.size_append]
        have : e.tx.size ≤ e.all := by unfold Ev.all Ev.size; omega
        omega
      · rw [textK_no hx h3]; omega
def TellStr (s : ByteArray) (w : World) (e : Ending) (w' : World) : Prop := e = .returned (.string s) ∧ Below w.heap.size w w'
set_option maxHeartbeats 2000000 in
theorem rtextD_any (A : Option Addr) (n c : Nat) (l : List Ev) (w : World) (hl : EvsAt w A n l) (hs : evSum l ≤ 1048576) (hn : n ≤ 9223372036854775806) :
    Calls Tryd.prog 38 #[.slice A n c] w (TellStr (textK l n) w) := by
  have L := Lib.hid hl
  clear hl
  go_enter Tryd.func38, Tryd.ntmps38
  go_wp2
  go_loop [3, 4] (fun s i => ∃ (k : Nat), k ≤ n ∧ i = .int .i64 k ∧ s = .string (textK l k)) (fun _ i => n - (intOf i).toNat)
  case atStart => exact ⟨0, by omega, rfl, rfl⟩
  case round =>
    obtain ⟨k, hk, rfl, rfl⟩ := hrel
    by_cases hlt : k < n
    · obtain ⟨a, e, hA, hx, he, hok⟩ := L.out.2 k hlt
      subst hA
      have b0 : (0 : Int) ≤ (k : Int) := by omega
      have b1 : (k : Int) < (n : Int) := by omega
      obtain ⟨_, g0, g1, g2, g3, g4⟩ := he
      have h1 := textK_size l k
      have h2 := evSum_le l k
      have h3 : e.tx.size ≤ evSum l := Nat.le_trans (by unfold Ev.all Ev.size; omega : e.tx.size ≤ e.all) (evSum_mem hx)
      by_cases h : e.k = 3
      · have q1 : (e.k == 3) = true := by simpa using h
        have F := Lib.hid (textK_yes hx h)
        have hS := fun w' => run_string_add (P := Tryd.prog) w' (textK l k) e.tx (by omega) (by omega)
        clear h hx hok
        go_wp2
        go_round
        case rel => exact ⟨k + 1, by omega, by go_num, by rw [F.out]⟩
        case measure => simp [intOf]; omega
      · have q1 : (e.k == 3) = false := by simpa using h
        have F := Lib.hid (textK_no hx h)
        clear h hx hok
        go_wp2
        go_round
        case rel => exact ⟨k + 1, by omega, by go_num, by rw [F.out]⟩
        case measure => simp [intOf]; omega
    · obtain rfl : k = n := by omega
      go_wp2
      go_ret
      exact ⟨rfl, Below.refl _ _⟩
theorem ownRow_belowB {w w' : World} {base : Nat} {e : TypeId} {size : Nat} {v : Value} {n : Nat} {xs : List Value} (h : w.ownsRow base e size v n xs) (hb : Below w.heap.size w w') : w'.ownsRow base e size v n xs := by
  refine ⟨h.1, ?_⟩
  rcases h.2 with h2 | ⟨g, cap, cur, hv, hg, hh, r⟩
  · exact .inl h2
  · refine .inr ⟨g, cap, cur, hv, hg, ?_, r⟩
    rcases Nat.lt_or_ge g w.heap.size with hlt | hge
    · rw [hb.block g hlt]; exact hh
    · rw [Array.getElem?_eq_none hge] at hh; cases hh
theorem builder_below {T e : TypeId} {B b : Nat} {bs : List Value} {w w' : World} (h : Lib.IsBuilder T e B b bs w) (hb : Below w.heap.size w w') : Lib.IsBuilder T e B b bs w' := by
  have key : ∀ p, Lib.BuilderAt T e B b p bs w → Lib.BuilderAt T e B b p bs w' := fun p ⟨h1, v, h2, h3, h4⟩ => by
    refine ⟨h1, v, ?_, ownRow_belowB h3 hb, h4⟩
    rcases Nat.lt_or_ge b w.heap.size with hlt | hge
    · rw [hb.block b hlt]; exact h2
    · rw [Array.getElem?_eq_none hge] at h2; cases h2
  exact h.imp (key _) (key _)
theorem strCells_append (a b : ByteArray) : Lib.strCells (a ++ b) = Lib.strCells a ++ Lib.strCells b := by
  unfold Lib.strCells; rw [ByteArray.data_append, Array.toList_append, List.map_append]
theorem builder_new (w : World) : Lib.IsBuilder 93 5 w.heap.size w.heap.size [] (w.alloc (.cells #[.pointer none, .slice none 0 0] 93)) :=
  .inl ⟨Nat.le_refl _, .slice none 0 0, by rw [World.alloc]; simp, World.ownsRow_nil _ _ _ _, by simp [Value.ownBlock]⟩
set_option maxHeartbeats 2000000 in
theorem textD_any (A : Option Addr) (n c : Nat) (l : List Ev) (w : World) (hl : EvsAt w A n l) (hs : evSum l ≤ 1048576) (hn : n ≤ 9223372036854775806) :
    Calls Tryd.prog 36 #[.slice A n c] w (TellStr (textK l n) w) := by
  have L := Lib.hid hl
  clear hl
  have N0 := Lib.hid (builder_new w)
  have B0 := Lib.hid ((Below.refl w.heap.size w).alloc (Nat.le_refl _) (.cells #[.pointer none, .slice none 0 0] 93))
  go_enter Tryd.func36, Tryd.ntmps36
  go_wp2
  go_loopw [8] (fun i wr => ∃ (k : Nat), k ≤ n ∧ i = .int .i64 k ∧ Hid (Lib.IsBuilder 93 5 w.heap.size w.heap.size (Lib.strCells (textK l k)) wr) ∧ Hid (Below w.heap.size w wr)) (fun i _ => n - (intOf i).toNat)
  case atStart => exact ⟨0, by omega, rfl, N0.out, B0.out⟩
  case round =>
    obtain ⟨k, hk, rfl, HN, HB⟩ := hrel
    by_cases hlt : k < n
    · obtain ⟨a, e, hA, hx, he, hok⟩ := L.out.2 k hlt
      subst hA
      have b0 : (0 : Int) ≤ (k : Int) := by omega
      have b1 : (k : Int) < (n : Int) := by omega
      obtain ⟨_, g0, g1, g2, g3, g4⟩ := he.below HB.out he.1
      have h1 := textK_size l k
      have h2 := evSum_le l k
      have h3 : e.tx.size ≤ evSum l := Nat.le_trans (by unfold Ev.all Ev.size; omega : e.tx.size ≤ e.all) (evSum_mem hx)
      obtain ⟨W, hW, hB1, c0, c1, c2, c3, c4⟩ := evBox wr e 40
      have HN1 := builder_below HN.out hB1
      have HB1 := HB.out.trans (hB1.mono HB.out.size)
      by_cases h : e.k = 3
      · have q1 : (e.k == 3) = true := by simpa using h
        have F := Lib.hid (textK_yes hx h)
        clear h hx hok he hB1 HN HB
        go_wp2_with fail
        refine (writeString_any w.heap.size w.heap.size _ e.tx _ HN1 (by rw [Lib.strCells_length]; omega) HB1.size).mono ?_
        rintro x w2 ⟨rfl, hN2, hB2⟩
        have HB2 := HB1.trans hB2
        go_wp2
        go_roundw
        case rel =>
          refine ⟨k + 1, by omega, by go_num, ?_, HB2⟩
          show Lib.IsBuilder _ _ _ _ _ _
          rw [F.out]
          rw [strCells_append]
          exact .inr hN2
        case measure => simp [intOf]; omega
      · have q1 : (e.k == 3) = false := by simpa using h
        have F := Lib.hid (textK_no hx h)
        clear h hx hok he hB1 HN HB
        go_wp2
        go_roundw
        case rel => exact ⟨k + 1, by omega, by go_num, by show Lib.IsBuilder _ _ _ _ _ _; rw [F.out]; exact HN1, HB1⟩
        case measure => simp [intOf]; omega
    · obtain rfl : k = n := by omega
      go_wp2_with fail
      refine (Tryd.Builder_String_any w.heap.size w.heap.size (textK l k).data.toList _ HN.out HB.out.size).mono ?_
      rintro x w2 ⟨rfl, hB2⟩
      go_wp2
      go_ret
      exact ⟨rfl, HB.out.trans hB2⟩
end Go.Proofs.YtlifdmehejehjaaDoor
