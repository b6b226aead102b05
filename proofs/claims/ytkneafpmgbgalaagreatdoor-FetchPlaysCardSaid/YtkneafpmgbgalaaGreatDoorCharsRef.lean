/- The contracts of the reference of layer 3 (narthexref03): each class, the digit, the classes' number. Conditions: integer arguments are any. -/
import Derived.Test.YtkneafpmgbgalaaGreatDoorPlainA
import Derived.Test.YtkneafpmgbgalaaGreatDoorProg
import Derived.WalkKit
import Derived.Outline
import Derived.WalkLawsBesides
import Derived.Lib.Hide
namespace Go.Proofs.YtkneafpmgbgalaaGreatDoor
open Go.RowKit Go.Proofs.YtkneafpmgbgalaaGreatDoor.CharsPlain
/-- 'returns the Bool b (the number n), and the world is as it was'. -/
def RetB (b : Bool) (w : World) (e : Ending) (w' : World) : Prop := e = .returned (.bool b) ∧ w = w'
def RetI (n : Int) (w : World) (e : Ending) (w' : World) : Prop := e = .returned (.int .i64 n) ∧ w = w'
theorem ret_bool {a b : Bool} (h : a = b) : Ending.returned (.bool a) = .returned (.bool b) := by rw [h]
theorem ret_int {k : IntKind} {a b : Int} (h : a = b) : Ending.returned (.int k a) = .returned (.int k b) := by rw [h]
/-- The signs' text. -/
def signBytes : ByteArray := ⟨#[45, 39, 40, 41, 43, 44, 46, 47, 58, 61, 63, 59, 33, 42, 35, 64, 36, 95, 37]⟩
theorem sign_at (s : ByteArray) (hs : s = signBytes) (k : Nat) (hk : k < s.size) : ∃ z : Int, wrap64 (s[k].toNat : Int) = z ∧ signs[k]? = some z := by
  subst hs
  have h : ∀ k : Fin 19, signs[k.val]? = some (wrap64 ((signBytes.data.getD k.val 0).toNat : Int)) := by decide +kernel
  have hk' : k < 19 := hk
  refine ⟨_, rfl, ?_⟩
  rw [h ⟨k, hk'⟩]
  have e : signBytes.data.getD k 0 = signBytes[k] := by
    show _ = signBytes.data[k]
    rw [Array.getD_eq_getD_getElem?, Array.getElem?_eq_getElem (by exact hk)]; rfl
  rw [e]; rfl
/-- The digits' two texts. -/
def lowBytes : ByteArray := ⟨#[48, 49, 50, 51, 52, 53, 54, 55, 56, 57, 97, 98, 99, 100, 101, 102]⟩
def upBytes : ByteArray := ⟨#[48, 49, 50, 51, 52, 53, 54, 55, 56, 57, 65, 66, 67, 68, 69, 70]⟩
theorem low_at (s : ByteArray) (hs : s = lowBytes) (k : Nat) (hk : k < s.size) : ∃ z : Int, wrap64 (s[k].toNat : Int) = z ∧ lowZ[k]? = some z := by
  subst hs
  have h : ∀ k : Fin 16, lowZ[k.val]? = some (wrap64 ((lowBytes.data.getD k.val 0).toNat : Int)) := by decide +kernel
  have hk' : k < 16 := hk
  refine ⟨_, rfl, ?_⟩
  rw [h ⟨k, hk'⟩]
  have e : lowBytes.data.getD k 0 = lowBytes[k] := by
    show _ = lowBytes.data[k]
    rw [Array.getD_eq_getD_getElem?, Array.getElem?_eq_getElem (by exact hk)]; rfl
  rw [e]; rfl
theorem up_at (s : ByteArray) (hs : s = upBytes) (k : Nat) (hk : k < s.size) : ∃ z : Int, wrap64 (s[k].toNat : Int) = z ∧ upZ[k]? = some z := by
  subst hs
  have h : ∀ k : Fin 16, upZ[k.val]? = some (wrap64 ((upBytes.data.getD k.val 0).toNat : Int)) := by decide +kernel
  have hk' : k < 16 := hk
  refine ⟨_, rfl, ?_⟩
  rw [h ⟨k, hk'⟩]
  have e : upBytes.data.getD k 0 = upBytes[k] := by
    show _ = upBytes.data[k]
    rw [Array.getD_eq_getD_getElem?, Array.getElem?_eq_getElem (by exact hk)]; rfl
  rw [e]; rfl
set_option maxHeartbeats 1000000 in
theorem rdigit_any (r b : Int) (w : World) : Calls Tryz.prog 67 #[.int .i64 r, .int .i64 b] w (RetI (digit r b) w) := by
  by_cases hb : b = 10 ∨ b = 16
  · obtain ⟨s, hs⟩ : ∃ s, s = lowBytes := ⟨_, rfl⟩
    obtain ⟨t, ht⟩ : ∃ t, t = upBytes := ⟨_, rfl⟩
    have e : ({ data := #[48, 49, 50, 51, 52, 53, 54, 55, 56, 57, 97, 98, 99, 100, 101, 102] } : ByteArray) = s := hs.symm
    have e' : ({ data := #[48, 49, 50, 51, 52, 53, 54, 55, 56, 57, 65, 66, 67, 68, 69, 70] } : ByteArray) = t := ht.symm
    have hsz : s.size = 16 := by rw [hs]; decide
    have htz : t.size = 16 := by rw [ht]; decide
    have E := Lib.hid e
    have E' := Lib.hid e'
    have HS := Lib.hid hs
    have HT := Lib.hid ht
    clear hs e ht e'
    have B := Lib.hid hb
    have hb1 : 10 ≤ b := by omega
    have hb2 : b ≤ 16 := by omega
    have hd : ((b != 10) = false) ∨ ((b != 10) = true ∧ (b != 16) = false) := by rcases hb with rfl | rfl <;> simp
    clear hb
    rcases hd with t1 | ⟨t1, t2⟩
    all_goals
      go_enter Tryz.func67, Tryz.ntmps67
      go_wp2_with fail
      rw [E.out, E'.out]
      go_loop [7] (fun i => ∃ k : Nat, k ≤ 16 ∧ i = .int .i64 k ∧ Hid (∀ j : Nat, j < k → lowZ[j]? ≠ some r ∧ upZ[j]? ≠ some r)) (fun i => 16 - (intOf i).toNat)
      case atStart => exact ⟨0, by omega, rfl, fun j hj => by omega⟩
      case round =>
        obtain ⟨k, hk, rfl, HN⟩ := hrel
        by_cases hlt : (k : Int) < b
        rotate_left
        · have e1 := Lib.hid (dig_none r _ B.out (fun j hj => HN.out j (by omega)))
          clear HN
          go_wp2
          go_ret
          exact ⟨ret_int (by rw [e1.out]), rfl⟩
        · obtain ⟨z, hz, hz2⟩ := low_at s HS.out k (by omega)
          obtain ⟨y, hy, hy2⟩ := up_at t HT.out k (by omega)
          have Z := Lib.hid hz2
          have Y := Lib.hid hy2
          clear hz2 hy2
          by_cases hzr : z = r
          · have t4 : (z == r) = true := by simp [hzr]
            have e1 := Lib.hid (dig_hit r _ k B.out hlt (.inl (by rw [Z.out, hzr])))
            clear hzr
            go_wp2
            go_ret
            exact ⟨ret_int (by rw [e1.out]), rfl⟩
          · have t4 : (z == r) = false := by simp [hzr]
            by_cases hyr : y = r
            · have t5 : (y == r) = true := by simp [hyr]
              have e1 := Lib.hid (dig_hit r _ k B.out hlt (.inr (by rw [Y.out, hyr])))
              clear hzr hyr
              go_wp2
              go_ret
              exact ⟨ret_int (by rw [e1.out]), rfl⟩
            · have t5 : (y == r) = false := by simp [hyr]
              have HN2 : Hid (∀ j : Nat, j < k + 1 → lowZ[j]? ≠ some r ∧ upZ[j]? ≠ some r) := fun j hj => by
                by_cases e : j = k
                · subst e; rw [Z.out, Y.out]; exact ⟨fun h => hzr (by injection h), fun h => hyr (by injection h)⟩
                · exact HN.out j (by omega)
              clear hzr hyr HN
              go_wp2
              go_round
              case rel => exact ⟨k + 1, by omega, by go_num, HN2⟩
              case measure => simp [intOf]; omega
  · have t1 : (b != 10) = true := by simp; omega
    have t2 : (b != 16) = true := by simp; omega
    have e : digit r b = -1 := by unfold digit; rw [if_neg hb]
    rw [e]
    clear hb e
    go_enter Tryz.func67, Tryz.ntmps67
    go_wp2
    go_ret
    exact ⟨rfl, rfl⟩
end Go.Proofs.YtkneafpmgbgalaaGreatDoor
