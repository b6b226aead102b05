/- graph.order: the places that can be told, one by one. Conditions: at most 2^20 places. -/
import Derived.Test.YtkeclfhhilphpaaDoorGraphRight
import Derived.OneCell
import Derived.OwnWalk
import Derived.RangeFuncBox
import Derived.RangeFuncNested
namespace Go.Proofs.YtkeclfhhilphpaaDoor
open Go.RowKit Go.Proofs.YtkeclfhhilphpaaDoor.GraphPlain
def intG (G : Gr) : List (List Int) := G.map fun r => r.map Int.ofNat
theorem intG_at {G : Gr} {k : Nat} {r : List Int} (h : (intG G)[k]? = some r) : r = (row G k).map Int.ofNat ∧ k < G.length := by
  unfold intG at h
  rw [List.getElem?_map] at h
  cases hg : G[k]? with
  | none => rw [hg] at h; cases h
  | some x =>
    rw [hg] at h
    have h : x.map Int.ofNat = r := by simpa using h
    refine ⟨?_, (List.getElem?_eq_some_iff.1 hg).1⟩
    rw [← h, row, List.getD_eq_getElem?_getD, hg]; rfl
def toldC (n : Nat) (l : List Nat) : List Value := (List.range n).map fun i => .int .i64 (if l.contains i then 1 else 0)
theorem toldC_nil (n : Nat) : toldC n [] = List.replicate n (.int .i64 0) := by
  apply List.ext_getElem?
  intro i
  by_cases hi : i < n
  · simp [toldC, hi]
  · simp [toldC, hi]
theorem toldC_set (n : Nat) (l : List Nat) (a : Nat) : (toldC n l).set a (.int .i64 1) = toldC n (l ++ [a]) := by
  apply List.ext_getElem?
  intro i
  rw [List.getElem?_set]
  by_cases hi : i < n
  · by_cases e : a = i
    · subst e; simp [toldC, hi]
    · have e' : ¬ i = a := fun h => e h.symm
      simp [toldC, hi, e, e']
  · by_cases e : a = i
    · subst e; simp [toldC, hi]
    · simp [toldC, hi, e]
theorem toldC_at {n : Nat} {l : List Nat} {a : Nat} (h : a < n) : (toldC n l)[a]? = some (.int .i64 (if l.contains a then 1 else 0)) := by simp [toldC, h]
theorem anyOpen {G : Gr} {l : List Nat} {k : Nat} : ((row G k).map Int.ofNat).any (fun x => !l.contains x.toNat) = !((row G k).all fun j => l.contains j) := by
  rw [List.any_map, List.not_all_eq_any_not]
  rfl
theorem addT (T x : Nat) : (⟨T, 0, none⟩ : Addr).add x = ⟨T, x, none⟩ := by cases x <;> simp [Addr.add]
def lenOfG : Value → Nat
  | .slice _ n _ => n
  | _ => 0
set_option maxHeartbeats 1000000 in
theorem open_any (x tb T n base : Nat) (l : List Nat) (w : World) (hc : w.cell? ⟨tb, 0, none⟩ = some (.slice (some ⟨T, 0, none⟩) n n)) (hr : w.ownsRow base 3 1 (.slice (some ⟨T, 0, none⟩) n n) n (toldC n l)) (hx : x < n) :
    Calls Tryd.prog 43 #[.int .i64 x, .pointer (some ⟨tb, 0, none⟩)] w (RetBg (!l.contains x) w) := by
  have g0 : w.cell? ⟨T, x, none⟩ = some (.int .i64 (if l.contains x = true then 1 else 0)) := by
    have := hr.cells rfl x _ (toldC_at hx)
    rwa [addT] at this
  have b0 : (0 : Int) ≤ (x : Int) := by omega
  have b1 : (x : Int) < (n : Int) := by omega
  clear hr
  cases h : l.contains x with
  | true =>
    rw [h, if_pos rfl] at g0
    go_enter Tryd.func43, Tryd.ntmps43
    go_wp2
    go_ret
    exact ⟨rfl, rfl⟩
  | false =>
    rw [h, if_neg (by decide)] at g0
    go_enter Tryd.func43, Tryd.ntmps43
    go_wp2
    go_ret
    exact ⟨rfl, rfl⟩
set_option maxHeartbeats 2000000 in
theorem indexOpen_any (A : Option Addr) (n c : Nat) (l : List Int) (b : Nat) (p : Int → Bool) (w : World) (hl : IntsAt w A n l) (hn : n ≤ 9223372036854775806)
    (hp : ∀ x ∈ l, Calls Tryd.prog 43 #[.int .i64 x, .pointer (some ⟨b, 0, none⟩)] w (RetBg (p x) w)) :
    Calls Tryd.prog 49 #[.slice A n c, .func (.func 43) #[] #[.pointer (some ⟨b, 0, none⟩)]] w (RetNg (findI p l) w) := by
  have L := Lib.hid hl
  have P := Lib.hid hp
  clear hl hp
  go_enter Tryd.func49, Tryd.ntmps49
  go_wp2
  go_loopw [5, 8] (fun v5 i wr => ∃ (k : Nat), k ≤ n ∧ i = .int .i64 k ∧ Hid (∀ y ∈ l.take k, p y = false) ∧ wr = w) (fun _ i _ => n - (intOf i).toNat)
  case atStart => exact ⟨0, by omega, rfl, by intro y hy; simp at hy, rfl⟩
  case round =>
    obtain ⟨k, hk, rfl, HT, rfl⟩ := hrel
    by_cases hlt : k < n
    · obtain ⟨a, x, rfl, hx, _, g0⟩ := L.out.2 k hlt
      have b0 : (0 : Int) ≤ (k : Int) := by omega
      have b1 : (k : Int) < (n : Int) := by omega
      have X := Lib.hid hx
      clear hx
      cases hpx : p x with
      | true =>
        have C := P.out x (memOf X.out)
        rw [hpx] at C
        have G := Lib.hid (findI_yes HT.out X.out hpx)
        go_wp2_with fail
        refine C.mono ?_
        rintro e w' ⟨rfl, rfl⟩
        go_wp2
        go_ret
        exact ⟨by rw [G.out]; rfl, rfl⟩
      | false =>
        have C := P.out x (memOf X.out)
        rw [hpx] at C
        have G := Lib.hid (snocAll HT.out X.out hpx)
        go_wp2_with fail
        refine C.mono ?_
        rintro e w' ⟨rfl, rfl⟩
        go_wp2
        go_roundw
        case rel => exact ⟨k + 1, by omega, by go_num, G, by first | rfl | trivial⟩
        case measure => simp [intOf]; omega
    · obtain rfl : k = n := by omega
      have G := Lib.hid (findI_no (p := p) (l := l) (by have := HT.out; rwa [← L.out.1, List.take_length] at this))
      go_wp2
      go_ret
      exact ⟨by rw [G.out]; rfl, rfl⟩
set_option maxHeartbeats 2000000 in
theorem containsOpen_any (A : Option Addr) (n c : Nat) (l : List Int) (b : Nat) (p : Int → Bool) (w : World) (hl : IntsAt w A n l) (hn : n ≤ 9223372036854775806)
    (hp : ∀ x ∈ l, Calls Tryd.prog 43 #[.int .i64 x, .pointer (some ⟨b, 0, none⟩)] w (RetBg (p x) w)) :
    Calls Tryd.prog 42 #[.slice A n c, .func (.func 43) #[] #[.pointer (some ⟨b, 0, none⟩)]] w (RetBg (l.any p) w) := by
  have C := Lib.hid (indexOpen_any A n c l b p w hl hn hp)
  have hr := findI_range (p := p) l
  rw [hl.1] at hr
  have G := Lib.hid (findI_ge (p := p) l)
  clear hl hp
  generalize findI p l = v at *
  have h1 : (-9223372036854775808 : Int) ≤ v := by omega
  have h2 : v ≤ 9223372036854775807 := by omega
  go_enter Tryd.func42, Tryd.ntmps42
  go_wp2_with fail
  refine C.out.mono ?_
  rintro e w' ⟨rfl, rfl⟩
  go_wp2
  go_ret
  exact ⟨by rw [← G.out]; rfl, rfl⟩
end Go.Proofs.YtkeclfhhilphpaaDoor
