/- The contracts of chars.in and of the search that it calls: is a number in one of a table's runs. Conditions: the runs rise, and the table's cells read as them. -/
import Derived.Test.YtlifdmehejehjaaDoorCharsRef
import Derived.Deep.QuietTactic
import Derived.BigQuiet
import Derived.Shelf.Abstract
import Derived.Below
namespace Go.Proofs.YtlifdmehejehjaaDoor
open Go.RowKit Go.Shelf Go.Proofs.YtlifdmehejehjaaDoor.CharsPlain
set_option maxHeartbeats 400000 in
theorem inlit_any (p1 p2 : Addr) (b n c k : Nat) (r y : Int) (w : World) (hk : k < n) (h1 : w.cell? p1 = some (.slice (some ⟨b, 0, none⟩) n c)) (h2 : w.cell? p2 = some (.int .i64 r))
    (h3 : w.cell? ⟨b, k * 2 + 1, none⟩ = some (.int .i64 y)) :
    Calls Tryd.prog 79 #[.int .i64 k, .pointer (some p1), .pointer (some p2)] w fun e w' => e = .returned (.bool (decide (r ≤ y))) ∧ ∃ m, w' = w.drewN m := by
  have i1 : (k : Int) < (n : Int) := by omega
  go_enter Tryd.func79, Tryd.ntmps79
  go_wp2
  go_quiet (fail)
  go_wp2
  go_ret
  exact ⟨rfl, _, rfl⟩
/-- The runs of a table: at its places stand each run's first and last number. -/
def RunsAt (w : World) (b : Nat) (rs : List (Int × Int)) : Prop :=
  ∀ k, k < rs.length → ∃ x y, rs[k]? = some (x, y) ∧ w.cell? ⟨b, k * 2, none⟩ = some (.int .i64 x) ∧ w.cell? ⟨b, k * 2 + 1, none⟩ = some (.int .i64 y)
set_option maxHeartbeats 400000 in
theorem search_any (g : Nat) (cb : Array Value) (n : Nat) (p : Nat → Bool) (w : World) (eg : ∀ args w, (callFunc g args).run Tryd.prog w = .ok (.enter g args) w) (_hn : n ≤ 1000)
    (hf : ∀ (m i : Nat), i < n → Calls Tryd.prog g (#[.int .i64 i] ++ cb) (w.drewN m) fun e w' => e = .returned (.bool (p i)) ∧ ∃ q, w' = (w.drewN m).drewN q) :
    Calls Tryd.prog 78 #[.int .i64 n, .func (.func g) #[] cb] w fun e w' => ∃ i : Nat, e = .returned (.int .i64 i) ∧ i ≤ n ∧ (i = 0 ∨ p (i - 1) = false) ∧ (i = n ∨ p i = true) ∧ ∃ q, w' = w.drewN q := by
  have HF := Lib.hid hf
  clear hf
  go_enter Tryd.func78, Tryd.ntmps78
  go_wp2
  go_loopw [5, 6, 7] (fun i j _ wr => (∃ i' j' : Nat, i' ≤ j' ∧ j' ≤ n ∧ i = .int .i64 i' ∧ j = .int .i64 j' ∧ Hid ((i' = 0 ∨ p (i' - 1) = false) ∧ (j' = n ∨ p j' = true))) ∧ ∃ m, wr = w.drewN m) (fun i j _ _ => (intOf j - intOf i).toNat)
  case atStart => exact ⟨⟨0, n, by omega, by omega, rfl, rfl, .inl rfl, .inl rfl⟩, 0, rfl⟩
  case round =>
    obtain ⟨⟨i, j, hij, hjn, rfl, rfl, HI⟩, m, rfl⟩ := hrel
    by_cases hlt : i < j
    · have hh : ((i : Int) + j) / 2 = (((i + j) / 2 : Nat) : Int) := by omega
      have HH := Lib.hid hh
      clear hh
      generalize hk : (i + j) / 2 = h at HH
      have h1 : i ≤ h := by omega
      have h2 : h < j := by omega
      clear hk
      cases hp : p h with
      | true =>
        have HP := Lib.hid hp
        clear hp
        go_wp2_with fail
        rw [HH.out]
        refine (HF.out m h (by omega)).mono ?_; rintro e w' ⟨rfl, q, rfl⟩
        rw [HP.out]
        go_wp2
        go_roundw
        case rel => exact ⟨⟨i, h, h1, by omega, rfl, rfl, HI.out.1, .inr HP.out⟩, _, rfl⟩
        case measure => simp [intOf]; omega
      | false =>
        have HP := Lib.hid hp
        clear hp
        go_wp2_with fail
        rw [HH.out]
        refine (HF.out m h (by omega)).mono ?_; rintro e w' ⟨rfl, q, rfl⟩
        rw [HP.out]
        go_wp2
        go_roundw
        case rel => exact ⟨⟨h + 1, j, by omega, by omega, by go_num, rfl, .inr HP.out, HI.out.2⟩, _, rfl⟩
        case measure => simp [intOf]; omega
    · obtain rfl : i = j := by omega
      go_wp2
      go_ret
      exact ⟨i, rfl, hjn, HI.out.1, HI.out.2, _, rfl⟩
def inRuns (rs : List (Int × Int)) (r : Int) : Bool := rs.any fun x => decide (x.1 ≤ r) && decide (r ≤ x.2)
def Rising (rs : List (Int × Int)) : Prop := rs.Pairwise (fun x y => x.2 < y.1) ∧ ∀ x ∈ rs, x.1 ≤ x.2
theorem rising_lt {rs : List (Int × Int)} (h : Rising rs) {j k : Nat} {x y : Int × Int} (hj : rs[j]? = some x) (hk : rs[k]? = some y) (hjk : j < k) : x.2 < y.1 := by
  obtain ⟨h1, e1⟩ := List.getElem?_eq_some_iff.1 hj
  obtain ⟨h2, e2⟩ := List.getElem?_eq_some_iff.1 hk
  have := List.pairwise_iff_getElem.1 h.1 j k h1 h2 hjk
  rw [e1, e2] at this; exact this
theorem rising_le {rs : List (Int × Int)} (h : Rising rs) {j : Nat} {x : Int × Int} (hj : rs[j]? = some x) : x.1 ≤ x.2 := h.2 x (List.mem_of_getElem? hj)
theorem in_iff {rs : List (Int × Int)} {r : Int} : inRuns rs r = true ↔ ∃ (k : Nat) (x : Int × Int), rs[k]? = some x ∧ x.1 ≤ r ∧ r ≤ x.2 := by
  unfold inRuns
  rw [List.any_eq_true]
  constructor
  · rintro ⟨x, hx, h⟩
    obtain ⟨k, hk⟩ := List.getElem?_of_mem hx
    simp at h
    exact ⟨k, x, hk, h.1, h.2⟩
  · rintro ⟨k, x, hk, h1, h2⟩
    exact ⟨x, List.mem_of_getElem? hk, by simp [h1, h2]⟩
/-- What the search's place says. -/
theorem in_at {rs : List (Int × Int)} (h : Rising rs) (r : Int) (i : Nat) (z : Int × Int) (hz : rs[i]? = some z) (h1 : i = 0 ∨ ∀ x, rs[i - 1]? = some x → x.2 < r) (h2 : r ≤ z.2) :
    inRuns rs r = decide (z.1 ≤ r) := by
  rw [Bool.eq_iff_iff, in_iff]
  simp only [decide_eq_true_eq]
  constructor
  · rintro ⟨k, x, hk, hx1, hx2⟩
    rcases Nat.lt_trichotomy k i with hlt | rfl | hgt
    · exfalso
      rcases h1 with rfl | h1
      · omega
      · by_cases e : k = i - 1
        · subst e; have := h1 x hk; omega
        · have hy : i - 1 < rs.length := by have := (List.getElem?_eq_some_iff.1 hz).1; omega
          have := rising_lt h hk (List.getElem?_eq_getElem hy) (by omega)
          have h3 := rising_le h (List.getElem?_eq_getElem hy)
          have h4 := h1 _ (List.getElem?_eq_getElem hy)
          omega
    · rw [hk] at hz; cases hz; exact hx1
    · have := rising_lt h hz hk hgt; omega
  · intro h3; exact ⟨i, z, hz, h3, h2⟩
theorem in_end {rs : List (Int × Int)} (h : Rising rs) (r : Int) (h1 : rs.length = 0 ∨ ∀ x, rs[rs.length - 1]? = some x → x.2 < r) : inRuns rs r = false := by
  rw [Bool.eq_false_iff]
  intro hin
  obtain ⟨k, x, hk, hx1, hx2⟩ := in_iff.1 hin
  have hl := (List.getElem?_eq_some_iff.1 hk).1
  rcases h1 with h1 | h1
  · omega
  · by_cases e : k = rs.length - 1
    · subst e; have := h1 x hk; omega
    · have hy : rs.length - 1 < rs.length := by omega
      have := rising_lt h hk (List.getElem?_eq_getElem hy) (by omega)
      have h3 := rising_le h (List.getElem?_eq_getElem hy)
      have h4 := h1 _ (List.getElem?_eq_getElem hy)
      omega

/-- The world behind the two boxes. -/
theorem two_boxes (w : World) (o p : Value) (s t : TypeId) : ∃ W, W = ((w.alloc (.cells #[o] s)).alloc (.cells #[p] t)) ∧ W.cell? ⟨w.heap.size, 0, none⟩ = some o ∧ W.cell? ⟨w.heap.size + 1, 0, none⟩ = some p ∧ Below w.heap.size w W := by
  refine ⟨_, rfl, ?_, ?_, ((Below.refl _ _).alloc (Nat.le_refl _) _).alloc (by simp) _⟩
  · go_simp
  · go_simp
set_option maxHeartbeats 400000 in
theorem in_any (b n c : Nat) (rs : List (Int × Int)) (r : Int) (w : World) (hn : n ≤ 1000) (hl : rs.length = n) (hris : Rising rs) (hb : b < w.heap.size) (hr : RunsAt w b rs) :
    Calls Tryd.prog 74 #[.slice (some ⟨b, 0, none⟩) n c, .int .i64 r] w fun e w' => e = .returned (.bool (inRuns rs r)) ∧ Below w.heap.size w w' := by
  have HR := Lib.hid hr
  have HL := Lib.hid hl
  have HS := Lib.hid hris
  clear hr hl hris
  obtain ⟨W, hW, hc1, hc2, hbel⟩ := two_boxes w (.slice (some ⟨b, 0, none⟩) n c) (.int .i64 r) 122 3
  have EW := Lib.hid hW
  clear hW
  go_enter Tryd.func74, Tryd.ntmps74
  go_wp2_with fail
  rw [← EW.out]
  refine (search_any 79 _ n (fun i => decide (r ≤ (rs.getD i (0, 0)).2)) W (enters_of Tryd.func79 (by kernel_rfl) rfl) hn ?_).mono ?_
  · intro m i hi
    obtain ⟨x, y, h1, h2, h3⟩ := HR.out i (by rw [HL.out]; exact hi)
    have e : (rs.getD i (0, 0)).2 = y := by rw [List.getD_eq_getElem?_getD, h1]; rfl
    rw [e]
    exact inlit_any _ _ b n c i r y _ hi hc1 hc2 ((hbel.cell (p := ⟨b, i * 2 + 1, none⟩) hb).trans h3)
  · rintro e w' ⟨i, rfl, hi, hp1, hp2, q, rfl⟩
    have HP1 := Lib.hid hp1
    have HP2 := Lib.hid hp2
    clear hp1 hp2
    by_cases hlt : i < n
    · obtain ⟨x, y, h1, h2, h3⟩ := HR.out i (by rw [HL.out]; exact hlt)
      have hx : W.cell? ⟨b, i * 2, none⟩ = some (.int .i64 x) := (hbel.cell (p := ⟨b, i * 2, none⟩) hb).trans h2
      have i1 : (i : Int) < (n : Int) := by omega
      have fin : inRuns rs r = decide (x ≤ r) := by
        refine in_at HS.out r i (x, y) h1 ?_ ?_
        · rcases HP1.out with h | h
          · exact .inl h
          · refine .inr fun z hz => ?_
            rw [List.getD_eq_getElem?_getD, hz] at h
            simp at h; exact h
        · rcases HP2.out with h | h
          · omega
          · rw [List.getD_eq_getElem?_getD, h1] at h
            simp at h; exact h
      have FIN := Lib.hid fin
      clear fin h1 h2 h3
      go_wp2_with fail
      go_quiet (fail)
      go_wp2
      go_ret
      exact ⟨ret_bool (by rw [FIN.out]), below_drewN (below_drewN hbel _) _⟩
    · have i1 : decide ((i : Int) < (n : Int)) = false := by simp; omega
      have fin : inRuns rs r = false := by
        refine in_end HS.out r ?_
        rw [HL.out]
        obtain rfl : i = n := by omega
        rcases HP1.out with h | h
        · exact .inl h
        · refine .inr fun z hz => ?_
          rw [List.getD_eq_getElem?_getD, hz] at h
          simp at h; exact h
      have FIN := Lib.hid fin
      clear fin
      go_wp2_with fail
      go_quiet (fail)
      go_wp2
      go_ret
      exact ⟨ret_bool (by rw [FIN.out]), below_drewN (below_drewN hbel _) _⟩
end Go.Proofs.YtlifdmehejehjaaDoor
