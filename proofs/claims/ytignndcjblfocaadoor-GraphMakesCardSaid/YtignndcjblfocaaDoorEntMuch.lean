/- The reference's Much. Conditions: texts within the reach. -/
import Derived.Test.YtignndcjblfocaaDoorEntRef
namespace Go.Proofs.YtignndcjblfocaaDoor
set_option linter.unusedSimpArgs false
set_option linter.unusedVariables false
open Go.RowKit Go.Maps Go.Proofs.YtignndcjblfocaaDoor.GraphPlain Go.Proofs.YtignndcjblfocaaDoor.RefPlain
def sumX (l : List Ent) : Nat := (l.map fun e => e.tx.size).sum
def muchN (n : Nat) (l : List Ent) : Bool := decide (24 < n) || decide (1500 < sumX (l.take 50))
theorem sumX_next {l : List Ent} {k : Nat} {e : Ent} (h : l[k]? = some e) : sumX (l.take (k + 1)) = sumX (l.take k) + e.tx.size := by
  unfold sumX
  rw [List.take_add_one, h]
  simp
theorem sumX_mem {l : List Ent} {e : Ent} (h : e ∈ l) : e.tx.size ≤ sumX l := by
  unfold sumX
  induction l with
  | nil => cases h
  | cons x l ih =>
    rw [List.map_cons, List.sum_cons]
    rcases List.mem_cons.1 h with rfl | h
    · omega
    · have := ih h; omega
theorem sumX_bound {l : List Ent} {M : Nat} (h : ∀ e ∈ l, e.tx.size ≤ M) : ∀ k, sumX (l.take k) ≤ k * M := by
  intro k
  induction k with
  | zero => simp [sumX]
  | succ k ih =>
    cases hx : l[k]? with
    | none =>
      have e : l.take (k + 1) = l.take k := by rw [List.take_add_one, hx]; simp
      rw [e, Nat.succ_mul]; omega
    | some r =>
      have := h r (List.mem_of_getElem? hx)
      rw [sumX_next hx, Nat.succ_mul]; omega
theorem muchN_no {n : Nat} {l : List Ent} (hl : l.length = n) (h : muchN n l = false) : n ≤ 24 ∧ ∀ e ∈ l, e.tx.size ≤ 1500 := by
  unfold muchN at h
  simp only [Bool.or_eq_false_iff, decide_eq_false_iff_not] at h
  have : l.take 50 = l := List.take_of_length_le (by omega)
  rw [this] at h
  exact ⟨by omega, fun e he => by have := sumX_mem he; omega⟩
set_option maxHeartbeats 4000000 in
set_option maxRecDepth 100000 in
theorem rmuch_any (A : Option Addr) (n c : Nat) (l : List Ent) (w : World) (hl : EntsAt w A n l) (hs : ∀ e ∈ l, e.tx.size ≤ 140737488351232) (hn : n ≤ 9223372036854775807) :
    Calls Tryd.prog 7 #[.slice A n c] w fun e w' => e = .returned (.bool (muchN n l)) ∧ w = w' := by
  have L := Lib.hid hl
  have HS : Hid (∀ k, k ≤ 50 → sumX (l.take k) ≤ 7036874417561600) := fun k hk => Nat.le_trans (sumX_bound hs k) (by omega)
  have HM := Lib.hid hs
  clear hl hs
  go_enter Tryd.func7, Tryd.ntmps7
  go_wp2
  go_loopg [3, 4] 50 (fun g v3 v4 wr => ∃ k : Nat, g + k = 50 ∧ k ≤ n ∧ v3 = .int .i64 (sumX (l.take k) : Nat) ∧ v4 = .int .i64 k ∧ wr = w)
  case atStart => exact ⟨0, rfl, by omega, rfl, rfl, rfl⟩
  case round =>
    obtain ⟨k, hgk, hkn, rfl, rfl, rfl⟩ := hrel
    have b0 : (0 : Int) ≤ (k : Int) := by omega
    have hsk := HS.out k (by omega)
    by_cases hlt : k < n ∧ k < 50
    · obtain ⟨a, e, rfl, hx, he⟩ := L.out.2 k hlt.1
      have b1 : (k : Int) < (n : Int) := by omega
      have b2 : (k : Int) < 50 := by omega
      have hrl := HM.out e (List.mem_of_getElem? hx)
      have HN := Lib.hid (sumX_next hx)
      have e2 := he.2.2.1
      clear hx he hlt
      generalize sumX (l.take k) = u at *
      have hn2 : Hid (((sumX (l.take (k + 1)) : Nat) : Int) = (u : Int) + (e.tx.size : Int)) := by show _ = _; rw [HN.out]; omega
      go_wp2
      go_roundg (gk - 1)
      case measure => omega
      case rel => exact ⟨k + 1, by omega, by omega, by rw [hn2.out], by go_num, rfl⟩
    · have HE : Hid (sumX (l.take k) = sumX (l.take 50)) := by
        show _ = _
        by_cases h : k < 50
        · have hk : k = n := by omega
          rw [List.take_of_length_le (by rw [L.out.1]; omega), List.take_of_length_le (by rw [L.out.1]; omega)]
        · have hk : k = 50 := by omega
          rw [hk]
      have HG : Hid (muchN n l = (decide (24 < n) || decide (1500 < sumX (l.take k)))) := by show _ = _; rw [HE.out]; rfl
      generalize sumX (l.take k) = u at *
      have FIN : Hid (∀ b : Bool, (decide (24 < (n : Int)) || decide (1500 < (u : Int))) = b → muchN n l = b) := by
        intro b h
        rw [HG.out, ← h]
        congr 1 <;> (congr 1; simp; omega)
      clear HG HE
      rcases Nat.lt_or_ge k n with h1 | h1
      · have b1 : (k : Int) < (n : Int) := by omega
        have b2 : ¬ (k : Int) < 50 := by omega
        have p : 24 < (n : Int) := by omega
        have G := Lib.hid (FIN.out true (by rw [decide_eq_true p]; rfl))
        clear hlt
        go_wp2
        go_ret
        exact ⟨by rw [G.out]; rfl, rfl⟩
      · have b1 : ¬ (k : Int) < (n : Int) := by omega
        clear hlt
        rcases Int.lt_or_le 24 (n : Int) with p | p
        · have G := Lib.hid (FIN.out true (by rw [decide_eq_true p]; rfl))
          go_wp2
          go_ret
          exact ⟨by rw [G.out]; rfl, rfl⟩
        · have p' : ¬ 24 < (n : Int) := by omega
          rcases Int.lt_or_le 1500 (u : Int) with r | r
          · have G := Lib.hid (FIN.out true (by rw [decide_eq_true r, decide_eq_false p']; rfl))
            go_wp2
            go_ret
            exact ⟨by rw [G.out]; rfl, rfl⟩
          · have r' : ¬ 1500 < (u : Int) := by omega
            have G := Lib.hid (FIN.out false (by rw [decide_eq_false r', decide_eq_false p']; rfl))
            go_wp2
            go_ret
            exact ⟨by rw [G.out]; rfl, rfl⟩
end Go.Proofs.YtignndcjblfocaaDoor
