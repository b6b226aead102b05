/- The reference's Great: a graph that statements ask of is small. Conditions: none but the reach of a slice. -/
import Derived.Test.YtignndcjblfocaaDoorGraphRRight
namespace Go.Proofs.YtignndcjblfocaaDoor
open Go.RowKit Go.Proofs.YtignndcjblfocaaDoor.GraphPlain
def sumL (R : List (List Int)) : Nat := (R.map List.length).sum
def greatN (nn nt : Nat) (R : List (List Int)) : Bool := decide (30 < nn) || decide (30 < nt) || decide (100 < sumL (R.take 50))
theorem sumL_next {R : List (List Int)} {k : Nat} {r : List Int} (h : R[k]? = some r) : sumL (R.take (k + 1)) = sumL (R.take k) + r.length := by
  unfold sumL
  rw [List.take_add_one, h]
  simp
theorem sumL_take_le (R : List (List Int)) (k : Nat) : sumL (R.take k) ≤ sumL R := by
  unfold sumL
  conv => rhs; rw [← List.take_append_drop k R]
  rw [List.map_append, List.sum_append]
  omega
theorem sumL_mem {R : List (List Int)} {r : List Int} (h : r ∈ R) : r.length ≤ sumL R := by
  unfold sumL
  induction R with
  | nil => cases h
  | cons x R ih =>
    rw [List.map_cons, List.sum_cons]
    rcases List.mem_cons.1 h with rfl | h
    · omega
    · have := ih h; omega
theorem greatN_no {nn nt : Nat} {R : List (List Int)} (hR : R.length = nt) (h : greatN nn nt R = false) : nn ≤ 30 ∧ nt ≤ 30 ∧ sumL R ≤ 100 := by
  unfold greatN at h
  simp only [Bool.or_eq_false_iff, decide_eq_false_iff_not] at h
  have : R.take 50 = R := List.take_of_length_le (by omega)
  rw [this] at h
  omega
theorem sumL_bound {R : List (List Int)} {M : Nat} (h : ∀ r ∈ R, r.length ≤ M) : ∀ k, sumL (R.take k) ≤ k * M := by
  intro k
  induction k with
  | zero => simp [sumL]
  | succ k ih =>
    cases hx : R[k]? with
    | none =>
      have e : R.take (k + 1) = R.take k := by rw [List.take_add_one, hx]; simp
      rw [e, Nat.succ_mul]; omega
    | some r =>
      have := h r (memOf hx)
      rw [sumL_next hx, Nat.succ_mul]; omega
set_option maxHeartbeats 8000000 in
set_option maxRecDepth 100000 in
theorem rgreat_any (An : Option Addr) (nn cn : Nat) (At : Option Addr) (nt ct : Nat) (R : List (List Int)) (w : World) (hg : GrAt w At nt R) (hs : ∀ r ∈ R, r.length ≤ 17592186044416) (hnt : nt ≤ 9223372036854775807) (hnn : nn ≤ 9223372036854775807) :
    Calls Tryd.prog 14 #[grV An nn cn At nt ct] w fun e w' => e = .returned (.bool (greatN nn nt R)) ∧ Below w.heap.size w w' := by
  obtain ⟨W, hW, hB, hz, c0, c1⟩ := grBox w An nn cn At nt ct 30
  have GA := Lib.hid (hg.below hB)
  have HB := Lib.hid hB
  have HS : Hid (∀ k, k ≤ 50 → sumL (R.take k) ≤ 879609302220800) := fun k hk => Nat.le_trans (sumL_bound hs k) (by omega)
  have HM : Hid (∀ r ∈ R, r.length ≤ 17592186044416) := hs
  clear hB hg hs
  unfold grV
  go_enter Tryd.func14, Tryd.ntmps14
  go_wp2
  go_loopg [3, 4] 50 (fun g v3 v4 wr => ∃ k : Nat, g + k = 50 ∧ k ≤ nt ∧ v3 = .int .i64 (sumL (R.take k) : Nat) ∧ v4 = .int .i64 k ∧ wr = W)
  case atStart => exact ⟨0, rfl, by omega, rfl, rfl, rfl⟩
  case round =>
    obtain ⟨k, hgk, hkn, rfl, rfl, rfl⟩ := hrel
    have b0 : (0 : Int) ≤ (k : Int) := by omega
    have hsk := HS.out k (by omega)
    by_cases hlt : k < nt ∧ k < 50
    · obtain ⟨a, B, r, c, ha, hx, _, g0, gi⟩ := GA.out.2 k hlt.1
      subst ha
      have b1 : (k : Int) < (nt : Int) := by omega
      have b2 : (k : Int) < 50 := by omega
      have hrl := HM.out r (memOf hx)
      have HN := Lib.hid (sumL_next hx)
      clear hx gi hlt
      generalize sumL (R.take k) = u at *
      have hn2 : Hid (((sumL (R.take (k + 1)) : Nat) : Int) = (u : Int) + (r.length : Int)) := by show _ = _; rw [HN.out]; omega
      go_wp2
      go_roundg (gk - 1)
      case measure => omega
      case rel => exact ⟨k + 1, by omega, by omega, by rw [hn2.out], by go_num, rfl⟩
    · have HE : Hid (sumL (R.take k) = sumL (R.take 50)) := by
        show _ = _
        by_cases h : k < 50
        · have hk : k = nt := by omega
          rw [List.take_of_length_le (by rw [GA.out.1]; omega), List.take_of_length_le (by rw [GA.out.1]; omega)]
        · have hk : k = 50 := by omega
          rw [hk]
      have HG : Hid (greatN nn nt R = (decide (30 < nn) || decide (30 < nt) || decide (100 < sumL (R.take k)))) := by show _ = _; rw [HE.out]; rfl
      generalize sumL (R.take k) = u at *
      have hcond : (decide ((k : Int) < (nt : Int)) && decide ((k : Int) < 50)) = false := by
        rw [Bool.and_eq_false_iff, decide_eq_false_iff_not, decide_eq_false_iff_not]
        omega
      have fin : ∀ b : Bool, (decide (30 < (nn : Int)) || decide (30 < (nt : Int)) || decide (100 < (u : Int))) = b → greatN nn nt R = b := by
        intro b h
        rw [HG.out, ← h]
        congr 1
        · congr 1 <;> (congr 1; simp; omega)
        · congr 1; simp; omega
      have FIN := Lib.hid fin
      clear fin HG HE
      rcases Nat.lt_or_ge k nt with h1 | h1
      · have b1 : (k : Int) < (nt : Int) := by omega
        have b2 : ¬ (k : Int) < 50 := by omega
        clear hcond hlt
        rcases Int.lt_or_le 30 (nn : Int) with p | p
        · have G := Lib.hid (FIN.out true (by rw [decide_eq_true p]; rfl))
          go_wp2
          go_ret
          exact ⟨by rw [G.out]; rfl, HB.out⟩
        · have p' : ¬ 30 < (nn : Int) := by omega
          rcases Int.lt_or_le 30 (nt : Int) with q | q
          · have G := Lib.hid (FIN.out true (by rw [decide_eq_true q, decide_eq_false p']; rfl))
            go_wp2
            go_ret
            exact ⟨by rw [G.out]; rfl, HB.out⟩
          · omega
      · have b1 : ¬ (k : Int) < (nt : Int) := by omega
        clear hcond hlt
        rcases Int.lt_or_le 30 (nn : Int) with p | p
        · have G := Lib.hid (FIN.out true (by rw [decide_eq_true p]; rfl))
          go_wp2
          go_ret
          exact ⟨by rw [G.out]; rfl, HB.out⟩
        · have p' : ¬ 30 < (nn : Int) := by omega
          rcases Int.lt_or_le 30 (nt : Int) with q | q
          · have G := Lib.hid (FIN.out true (by rw [decide_eq_true q, decide_eq_false p']; rfl))
            go_wp2
            go_ret
            exact ⟨by rw [G.out]; rfl, HB.out⟩
          · have q' : ¬ 30 < (nt : Int) := by omega
            rcases Int.lt_or_le 100 (u : Int) with r | r
            · have G := Lib.hid (FIN.out true (by rw [decide_eq_true r, decide_eq_false p', decide_eq_false q']; rfl))
              go_wp2
              go_ret
              exact ⟨by rw [G.out]; rfl, HB.out⟩
            · have r' : ¬ 100 < (u : Int) := by omega
              have G := Lib.hid (FIN.out false (by rw [decide_eq_false r', decide_eq_false p', decide_eq_false q']; rfl))
              go_wp2
              go_ret
              exact ⟨by rw [G.out]; rfl, HB.out⟩
end Go.Proofs.YtignndcjblfocaaDoor
