/- A graph in memory; graph.Right, its closure, slices.IndexFunc and ContainsFunc at it. Conditions: none. -/
import Derived.Test.YtkeclfhhilphpaaDoorInts
import Derived.Test.YtkeclfhhilphpaaDoorGraphP
namespace Go.Proofs.YtkeclfhhilphpaaDoor
open Go.RowKit
def RetBg (b : Bool) (w : World) (e : Ending) (w' : World) : Prop := e = .returned (.bool b) ∧ w' = w
def RetNg (i : Int) (w : World) (e : Ending) (w' : World) : Prop := e = .returned (.int .i64 i) ∧ w' = w
/-- Rows of rows of numbers. -/
def GrAt (w : World) (A : Option Addr) (n : Nat) (R : List (List Int)) : Prop :=
  R.length = n ∧ ∀ k, k < n → ∃ a B r c, A = some a ∧ R[k]? = some r ∧ a.block < w.heap.size ∧ w.cell? (a.add k) = some (.slice B r.length c) ∧ IntsAt w B r.length r
theorem GrAt.below {w w' : World} {A : Option Addr} {n : Nat} {R : List (List Int)} (h : GrAt w A n R) (hb : Below w.heap.size w w') : GrAt w' A n R :=
  ⟨h.1, fun k hk => by
    obtain ⟨a, B, r, c, h1, h2, h3, h4, h5⟩ := h.2 k hk
    exact ⟨a, B, r, c, h1, h2, Nat.lt_of_lt_of_le h3 hb.size, (hb.cell (by rw [addBlockT]; exact h3)).trans h4, h5.below hb⟩⟩
/-- The first place at which p holds. -/
def findI (p : Int → Bool) (l : List Int) : Int := match l.findIdx? p with
  | some k => k
  | none => -1
theorem findI_yes {p : Int → Bool} {l : List Int} {k : Nat} {x : Int} (h : ∀ y ∈ l.take k, p y = false) (hx : l[k]? = some x) (hp : p x = true) : findI p l = k := by
  unfold findI
  have hk := (List.getElem?_eq_some_iff.1 hx)
  have hkl := hk.1
  have : l.findIdx? p = some k := by
    rw [List.findIdx?_eq_some_iff_getElem]
    refine ⟨hk.1, by rw [hk.2]; exact hp, fun j hj => ?_⟩
    have := h (l[j]'(by omega)) (by rw [List.mem_take_iff_getElem]; exact ⟨j, by omega, rfl⟩)
    simpa using this
  rw [this]
theorem findI_no {p : Int → Bool} {l : List Int} (h : ∀ y ∈ l, p y = false) : findI p l = -1 := by
  unfold findI
  have : l.findIdx? p = none := by rw [List.findIdx?_eq_none_iff]; exact h
  rw [this]
theorem findI_ge {p : Int → Bool} (l : List Int) : decide (0 ≤ findI p l) = l.any p := by
  unfold findI
  cases h : l.findIdx? p with
  | none =>
    rw [List.findIdx?_eq_none_iff] at h
    have : l.any p = false := by rw [List.any_eq_false]; intro x hx; rw [h x hx]; decide
    rw [this]; rfl
  | some k =>
    have h' := (List.findIdx?_eq_some_iff_getElem.1 h)
    have : l.any p = true := by rw [List.any_eq_true]; exact ⟨_, List.getElem_mem _, h'.2.1⟩
    rw [this]; simp
theorem findI_range {p : Int → Bool} (l : List Int) : -1 ≤ findI p l ∧ findI p l ≤ l.length := by
  unfold findI
  cases h : l.findIdx? p with
  | none => simp
  | some k => have h' := (List.findIdx?_eq_some_iff_getElem.1 h).1; simp; omega
theorem snocAll {p : Int → Bool} {l : List Int} {k : Nat} {x : Int} (h : ∀ y ∈ l.take k, p y = false) (hx : l[k]? = some x) (hp : p x = false) : ∀ y ∈ l.take (k + 1), p y = false := by
  intro y hy
  rw [List.take_add_one, hx] at hy
  rcases List.mem_append.1 hy with hy | hy
  · exact h y hy
  · obtain rfl : y = x := by simpa using hy
    exact hp
set_option maxHeartbeats 1000000 in
theorem right1_any (x : Int) (b : Nat) (An : Option Addr) (nn cn : Nat) (w : World) (hc : w.cell? ⟨b, 0, none⟩ = some (.slice An nn cn)) :
    Calls Tryd.prog 41 #[.int .i64 x, .pointer (some ⟨b, 0, none⟩)] w (RetBg (decide (x < 0) || decide ((nn : Int) ≤ x)) w) := by
  rcases Int.lt_or_le x 0 with h | h
  · have e : (decide (x < 0) || decide ((nn : Int) ≤ x)) = true := by rw [decide_eq_true h]; rfl
    rw [e]
    go_enter Tryd.func41, Tryd.ntmps41
    go_wp2
    go_ret
    exact ⟨rfl, rfl⟩
  · have e : (decide (x < 0) || decide ((nn : Int) ≤ x)) = decide ((nn : Int) ≤ x) := by rw [decide_eq_false (by omega)]; rfl
    rw [e]
    go_enter Tryd.func41, Tryd.ntmps41
    go_wp2
    all_goals (go_ret; exact ⟨by first | rfl | (congr; simp; omega), rfl⟩)
set_option maxHeartbeats 2000000 in
theorem indexRight_any (A : Option Addr) (n c : Nat) (l : List Int) (b : Nat) (p : Int → Bool) (w : World) (hl : IntsAt w A n l) (hn : n ≤ 9223372036854775806)
    (hp : ∀ x, Calls Tryd.prog 41 #[.int .i64 x, .pointer (some ⟨b, 0, none⟩)] w (RetBg (p x) w)) :
    Calls Tryd.prog 49 #[.slice A n c, .func (.func 41) #[] #[.pointer (some ⟨b, 0, none⟩)]] w (RetNg (findI p l) w) := by
  have L := Lib.hid hl
  have P := Lib.hid hp
  clear hl hp
  go_enter Tryd.func49, Tryd.ntmps49
  go_wp2
  go_loopw [5, 8] (fun v5 i wr => ∃ (k : Nat), k ≤ n ∧ i = .int .i64 k ∧ Hid (∀ y ∈ l.take k, p y = false) ∧ wr = w) (fun _ i _ => n - (intOf i).toNat)
  case atStart => exact ⟨0, by omega, rfl, by intro y hy; simp at hy, rfl⟩
  case round =>
    obtain ⟨k, hk, rfl, HT, rfl⟩ := hrel
    by_cases hlt : k < n
    · obtain ⟨a, x, rfl, hx, _, g0⟩ := L.out.2 k hlt
      have b0 : (0 : Int) ≤ (k : Int) := by omega
      have b1 : (k : Int) < (n : Int) := by omega
      have X := Lib.hid hx
      clear hx
      cases hpx : p x with
      | true =>
        have C := P.out x
        rw [hpx] at C
        have G := Lib.hid (findI_yes HT.out X.out hpx)
        go_wp2_with fail
        refine C.mono ?_
        rintro e w' ⟨rfl, rfl⟩
        go_wp2
        go_ret
        exact ⟨by rw [G.out]; rfl, rfl⟩
      | false =>
        have C := P.out x
        rw [hpx] at C
        have G := Lib.hid (snocAll HT.out X.out hpx)
        go_wp2_with fail
        refine C.mono ?_
        rintro e w' ⟨rfl, rfl⟩
        go_wp2
        go_roundw
        case rel => exact ⟨k + 1, by omega, by go_num, G, by first | rfl | trivial⟩
        case measure => simp [intOf]; omega
    · obtain rfl : k = n := by omega
      have G := Lib.hid (findI_no (p := p) (l := l) (by have := HT.out; rwa [← L.out.1, List.take_length] at this))
      go_wp2
      go_ret
      exact ⟨by rw [G.out]; rfl, rfl⟩
set_option maxHeartbeats 2000000 in
theorem containsRight_any (A : Option Addr) (n c : Nat) (l : List Int) (b : Nat) (p : Int → Bool) (w : World) (hl : IntsAt w A n l) (hn : n ≤ 9223372036854775806)
    (hp : ∀ x, Calls Tryd.prog 41 #[.int .i64 x, .pointer (some ⟨b, 0, none⟩)] w (RetBg (p x) w)) :
    Calls Tryd.prog 42 #[.slice A n c, .func (.func 41) #[] #[.pointer (some ⟨b, 0, none⟩)]] w (RetBg (l.any p) w) := by
  have C := Lib.hid (indexRight_any A n c l b p w hl hn hp)
  have hr := findI_range (p := p) l
  rw [hl.1] at hr
  have G := Lib.hid (findI_ge (p := p) l)
  clear hl hp
  generalize findI p l = v at *
  have h1 : (-9223372036854775808 : Int) ≤ v := by omega
  have h2 : v ≤ 9223372036854775807 := by omega
  go_enter Tryd.func42, Tryd.ntmps42
  go_wp2_with fail
  refine C.out.mono ?_
  rintro e w' ⟨rfl, rfl⟩
  go_wp2
  go_ret
  exact ⟨by rw [← G.out]; rfl, rfl⟩
def oddN (nn : Nat) (x : Int) : Bool := decide (x < 0) || decide ((nn : Int) ≤ x)
def rightN (nn : Nat) (R : List (List Int)) : Bool := R.all (fun r => !r.any (oddN nn)) && decide (R.length = nn)
def grV (An : Option Addr) (nn cn : Nat) (At : Option Addr) (nt ct : Nat) : Value := .agg #[.slice An nn cn, .slice At nt ct]
theorem heapNewR (w : World) (o : Obj) : (w.alloc o).heap[w.heap.size]? = some o := heap_alloc_new w o
theorem grBox (w : World) (An : Option Addr) (nn cn : Nat) (At : Option Addr) (nt ct : Nat) (t : TypeId) : ∃ W, w.alloc (.cells #[.slice An nn cn, .slice At nt ct] t) = W ∧ Below w.heap.size w W ∧ W.heap.size = w.heap.size + 1 ∧
    W.cell? ⟨w.heap.size, 0, none⟩ = some (.slice An nn cn) ∧ W.cell? ⟨w.heap.size, 1, none⟩ = some (.slice At nt ct) := by
  refine ⟨_, rfl, (Below.refl _ w).alloc (Nat.le_refl _) _, by simp, ?_, ?_⟩
  · have h := heapNewR w (.cells #[.slice An nn cn, .slice At nt ct] t)
    rw [Lib.cell_of_heap h]; rfl
  · have h := heapNewR w (.cells #[.slice An nn cn, .slice At nt ct] t)
    rw [Lib.cell_of_heap h]; rfl
theorem allTake {α : Type} {p : α → Bool} {l : List α} {k : Nat} {x : α} (h : ∀ y ∈ l.take k, p y = true) (hx : l[k]? = some x) (hp : p x = true) : ∀ y ∈ l.take (k + 1), p y = true := by
  intro y hy
  rw [List.take_add_one, hx] at hy
  rcases List.mem_append.1 hy with hy | hy
  · exact h y hy
  · obtain rfl : y = x := by simpa using hy
    exact hp
theorem memOf {α : Type} {l : List α} {k : Nat} {x : α} (hx : l[k]? = some x) : x ∈ l := List.mem_of_getElem? hx
set_option maxHeartbeats 2000000 in
theorem right_any (An : Option Addr) (nn cn : Nat) (At : Option Addr) (nt ct : Nat) (R : List (List Int)) (w : World) (hg : GrAt w At nt R) (hb : ∀ r ∈ R, r.length ≤ 9223372036854775806) (hnt : nt ≤ 9223372036854775806) :
    Calls Tryd.prog 34 #[grV An nn cn At nt ct] w fun e w' => e = .returned (.bool (rightN nn R)) ∧ Below w.heap.size w w' := by
  obtain ⟨W, hW, hB, hz, c0, c1⟩ := grBox w An nn cn At nt ct 65
  have GA := Lib.hid (hg.below hB)
  have HB := Lib.hid hB
  have HL := Lib.hid hb
  have HO := Lib.hid (fun x => right1_any x w.heap.size An nn cn W c0)
  clear hB hg hb
  unfold grV
  go_enter Tryd.func34, Tryd.ntmps34
  go_wp2
  go_loopw [10] (fun i wr => ∃ (k : Nat), k ≤ nt ∧ i = .int .i64 k ∧ Hid (∀ r ∈ R.take k, (!r.any (oddN nn)) = true) ∧ wr = W) (fun i _ => nt - (intOf i).toNat)
  case atStart => exact ⟨0, by omega, rfl, by intro y hy; simp at hy, rfl⟩
  case round =>
    obtain ⟨k, hk, rfl, HT, rfl⟩ := hrel
    by_cases hlt : k < nt
    · obtain ⟨a, B, r, c, rfl, hx, _, g0, gi⟩ := GA.out.2 k hlt
      have b0 : (0 : Int) ≤ (k : Int) := by omega
      have b1 : (k : Int) < (nt : Int) := by omega
      have C := Lib.hid (containsRight_any B r.length c r w.heap.size (oddN nn) wr gi (HL.out r (memOf hx)) HO.out)
      have X := Lib.hid hx
      clear hx gi
      cases hpx : r.any (oddN nn) with
      | true =>
        have C := C.out
        rw [hpx] at C
        have G : Hid (rightN nn R = false) := by
          have h1 : R.all (fun r => !r.any (oddN nn)) = false := by
            rw [List.all_eq_false]; exact ⟨r, memOf X.out, by rw [hpx]; decide⟩
          unfold rightN; show (_ && _) = false; rw [h1]; rfl
        go_wp2_with fail
        refine C.mono ?_
        rintro e w' ⟨rfl, rfl⟩
        go_wp2
        go_ret
        exact ⟨by rw [G.out]; rfl, HB.out⟩
      | false =>
        have C := C.out
        rw [hpx] at C
        have G := Lib.hid (allTake HT.out X.out (by show (!r.any (oddN nn)) = true; rw [hpx]; rfl))
        go_wp2_with fail
        refine C.mono ?_
        rintro e w' ⟨rfl, rfl⟩
        go_wp2
        go_roundw
        case rel => exact ⟨k + 1, by omega, by go_num, G, by first | rfl | trivial⟩
        case measure => simp [intOf]; omega
    · obtain rfl : k = nt := by omega
      have G : Hid (rightN nn R = decide ((k : Int) = nn)) := by
        have h1 : R.all (fun r => !r.any (oddN nn)) = true := by
          rw [List.all_eq_true]; intro r hr
          exact HT.out r (by rw [← GA.out.1, List.take_length]; exact hr)
        unfold rightN; show (_ && _) = _; rw [h1, GA.out.1]; simp; omega
      go_wp2
      go_ret
      exact ⟨by rw [G.out]; rfl, HB.out⟩
end Go.Proofs.YtkeclfhhilphpaaDoor
