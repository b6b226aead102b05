/- The contract of the reference's Replace. Conditions: at most 500 bytes each. -/
import Derived.Test.YtgbdkiphnghojaaDoorRefAll
import Derived.Test.YtgbdkiphnghojaaDoorRefRepPlain
import Derived.Test.YtgbdkiphnghojaaDoorStrEq
import Derived.Deep.QuietTactic
import Derived.BigQuiet
namespace Go.Proofs.YtgbdkiphnghojaaDoor
open Go.RowKit Go.Proofs.YtgbdkiphnghojaaDoor.UtfPlain Go.Proofs.YtgbdkiphnghojaaDoor.CharsPlain Go.Proofs.YtgbdkiphnghojaaDoor.NamePlain Go.Proofs.YtgbdkiphnghojaaDoor.RefPlain
def byF (s name by_ : ByteArray) (x : RefR) : ByteArray := if strOfNums x.s = name then by_ else s.extract x.a x.b
theorem extr_le (s : ByteArray) (i j : Nat) : (s.extract i j).size ≤ s.size := by rw [ByteArray.size_extract]; omega
theorem byF_le (s name by_ : ByteArray) (x : RefR) (h1 : s.size ≤ 500) (h2 : by_.size ≤ 500) : (byF s name by_ x).size ≤ 500 := by
  unfold byF; split
  · exact h2
  · exact Nat.le_trans (extr_le _ _ _) h1
theorem repG_le (f : RefR → ByteArray) (s : ByteArray) (hs : s.size ≤ 500) (l : List RefR) : ∀ at_, (∀ x ∈ l, (f x).size ≤ 502) → (repG f s at_ l).size ≤ l.length * 1002 := by
  induction l with
  | nil => intro _ _; exact Nat.zero_le _
  | cons x l ih =>
    intro at_ h
    simp only [repG, ByteArray.size_append, List.length_cons]
    have h1 := ih x.b (fun y hy => h y (List.mem_cons_of_mem _ hy))
    have h2 := h x (List.mem_cons_self ..)
    have h3 := extr_le s at_ x.a
    omega
theorem rep_step (f : RefR → ByteArray) (s : ByteArray) (k : Nat) (x : RefR) (hx : (refsN (bsOf s))[k]? = some x) :
    ∃ p, p ≤ x.a ∧ x.a < x.b ∧ x.b ≤ s.size ∧ lastB 0 ((refsN (bsOf s)).take k) = p ∧ lastB 0 ((refsN (bsOf s)).take (k + 1)) = x.b ∧ repG f s 0 ((refsN (bsOf s)).take (k + 1)) = repG f s 0 ((refsN (bsOf s)).take k) ++ s.extract p x.a ++ f x := by
  have hk : k < (refsN (bsOf s)).length := (List.getElem?_eq_some_iff.1 hx).1
  have hd : refsN (bsOf s) = (refsN (bsOf s)).take k ++ x :: (refsN (bsOf s)).drop (k + 1) := by
    have h1 := List.take_append_drop k (refsN (bsOf s))
    rw [List.drop_eq_getElem_cons hk, (List.getElem?_eq_some_iff.1 hx).2] at h1
    exact h1.symm
  have hc := chain_next s _ _ x (by rw [← hd]; exact refsN_chain s)
  have ht : (refsN (bsOf s)).take (k + 1) = (refsN (bsOf s)).take k ++ [x] := by rw [List.take_add_one, hx]; rfl
  refine ⟨_, hc.1, hc.2.1, hc.2.2.1, rfl, ?_, ?_⟩
  · rw [ht]; exact lastB_snoc _ _ _
  · rw [ht, repG_snoc, ByteArray.append_assoc]
def RetS (t : ByteArray) (w : World) (e : Ending) (w' : World) : Prop := e = .returned (.string t) ∧ Below w.heap.size w w'
set_option maxRecDepth 100000 in
set_option maxHeartbeats 16000000 in
theorem rreplace_any (s name by_ : ByteArray) (w : World) (hs : s.size ≤ 500) (hb : by_.size ≤ 500) : Calls Tryd.prog 17 #[.string s, .string name, .string by_] w (RetS (repN (byF s name by_) s) w) := by
  have C := Lib.hid (rall18_any s w (by omega))
  go_enter Tryd.func17, Tryd.ntmps17
  go_wp2_with fail
  refine C.out.mono ?_
  rintro e w1 ⟨A, c, rfl, hm, hB⟩
  have M := Lib.hid hm
  have HB := Lib.hid hB
  clear hm hB C
  have hrl := refsN_len (bsOf s)
  rw [bsOf_len] at hrl
  have hll := chain_last s (refsN (bsOf s)) 0 (Nat.zero_le _) (refsN_chain s)
  have hG := fun k => repG_le (byF s name by_) s hs ((refsN (bsOf s)).take k) 0 (fun x _ => Nat.le_trans (byF_le s name by_ x hs hb) (by omega))
  have HG : Hid (∀ k, (repG (byF s name by_) s 0 ((refsN (bsOf s)).take k)).size ≤ 501 * 1002) := fun k => Nat.le_trans (hG k) (Nat.mul_le_mul_right _ (by rw [List.length_take]; omega))
  have HST := Lib.hid (rep_step (byF s name by_) s)
  have HRN : Hid (repN (byF s name by_) s = repG (byF s name by_) s 0 (refsN (bsOf s)) ++ s.extract (lastB 0 (refsN (bsOf s))) s.size) := rfl
  clear hG
  obtain ⟨r, hr⟩ : ∃ r, refsN (bsOf s) = r := ⟨_, rfl⟩
  obtain ⟨n, hn⟩ : ∃ n, r.length = n := ⟨_, rfl⟩
  rw [hr] at M hrl hll HG HST HRN ⊢
  rw [hn] at M hrl ⊢
  have NS := Lib.hid hn
  clear hr hn
  have b9 : (n : Int) ≤ 501 := by omega
  go_wp2
  go_loopw [8, 9, 10] (fun o at_ i wr => ∃ (k d : Nat), k ≤ n ∧ i = .int .i64 k ∧ o = .string (repG (byF s name by_) s 0 (r.take k)) ∧ at_ = .int .i64 (lastB 0 (r.take k)) ∧ wr = w1.drewN d) (fun _ _ i _ => n - (intOf i).toNat)
  case atStart => exact ⟨0, 0, by omega, rfl, rfl, rfl, rfl⟩
  case round =>
    obtain ⟨k, d, hk, rfl, rfl, rfl, rfl⟩ := hrel
    by_cases hlt : k < n
    · obtain ⟨a, x, ha, hx, _, f1, f2, f3⟩ := M.out.2 k hlt
      subst ha
      obtain ⟨p, p1, p2, p3, e1, e2, e3⟩ := HST.out k x hx
      have g0 := HG.out k
      rw [e1]
      have E2 := Lib.hid e2
      have E3 := Lib.hid e3
      generalize repG (byF s name by_) s 0 (r.take k) = t at *
      clear hx e1 e2 e3
      have b0 : (0 : Int) ≤ (k : Int) := by omega
      have b1 : (k : Int) < (n : Int) := by omega
      have q0 : (0 : Int) ≤ (p : Int) := by omega
      have q1 : (p : Int) ≤ (x.a : Int) := by omega
      have q2 : (x.a : Int) ≤ (x.b : Int) := by omega
      have q3 : (x.b : Int) ≤ (s.size : Int) := by omega
      have q4 : (x.a : Int) ≤ (s.size : Int) := by omega
      have q5 : (0 : Int) ≤ (x.a : Int) := by omega
      have z1 := extr_le s p x.a
      have z2 := extr_le s x.a x.b
      have z3 : (t ++ s.extract p x.a).size ≤ 502502 := by rw [ByteArray.size_append]; omega
      have hS1 := fun w' => run_string_add (P := Tryd.prog) w' t (s.extract p x.a) (by omega) (by omega)
      by_cases hn : strOfNums x.s = name
      · have EF : Hid (byF s name by_ x = by_) := if_pos hn
        have t0 := sL_yes (strOfNums x.s)
        have hS2 := fun w' => run_string_add (P := Tryd.prog) w' (t ++ s.extract p x.a) by_ (by omega) (by omega)
        subst hn
        clear z1 z2 z3
        go_wp2
        go_roundw
        case rel => exact ⟨k + 1, d, by omega, by go_num, by rw [E3.out, EF.out], by rw [E2.out], rfl⟩
        case measure => simp [intOf]; omega
      · have EF : Hid (byF s name by_ x = s.extract x.a x.b) := if_neg hn
        have t0 := sL_no hn
        have hS2 := fun w' => run_string_add (P := Tryd.prog) w' (t ++ s.extract p x.a) (s.extract x.a x.b) (by omega) (by omega)
        clear z1 z2 z3 hn
        go_wp2_with fail
        go_quiet (fail)
        go_wp2
        go_roundw
        case rel => exact ⟨k + 1, _, by omega, by go_num, by rw [E3.out, EF.out], by rw [E2.out], rfl⟩
        case measure => simp [intOf]; omega
    · obtain rfl : k = n := by omega
      have ht : r.take r.length = r := List.take_length
      have g0 := HG.out k
      rw [← NS.out, ht] at g0 ⊢
      have RN := HRN
      generalize lastB 0 r = p at *
      generalize repG (byF s name by_) s 0 r = t at *
      have q0 : (0 : Int) ≤ (p : Int) := by omega
      have q1 : (p : Int) ≤ (s.size : Int) := by omega
      have z1 := extr_le s p s.size
      have hS1 := fun w' => run_string_add (P := Tryd.prog) w' t (s.extract p s.size) (by omega) (by omega)
      clear ht z1
      go_wp2
      go_ret
      rw [HRN.out]
      exact ⟨rfl, HB.out.trans (belowN_drewN _ _ _)⟩
end Go.Proofs.YtgbdkiphnghojaaDoor
