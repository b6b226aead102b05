/- The law's two closures: a name's text, or 'no'; a name with its marks. Conditions: at most 2^20 bytes. -/
import Derived.Test.YtgbdkiphnghojaaDoorRefRReplace
import Derived.RangeFuncCalls
namespace Go.Proofs.YtgbdkiphnghojaaDoor
open Go.RowKit Go.Proofs.YtgbdkiphnghojaaDoor.UtfPlain Go.Proofs.YtgbdkiphnghojaaDoor.CharsPlain Go.Proofs.YtgbdkiphnghojaaDoor.NamePlain Go.Proofs.YtgbdkiphnghojaaDoor.RefPlain
def noS : ByteArray := ⟨#[110, 111]⟩
set_option maxHeartbeats 1000000 in
theorem by1_any (bn bb : Nat) (t name by_ : ByteArray) (w : World) (h1 : w.cell? ⟨bn, 0, none⟩ = some (.string name)) (h2 : w.cell? ⟨bb, 0, none⟩ = some (.string by_)) :
    Calls Tryd.prog 15 #[.string t, .pointer (some ⟨bn, 0, none⟩), .pointer (some ⟨bb, 0, none⟩)] w fun e w' => e = .returned (.tuple #[.string (if t = name then by_ else noS), .bool (decide (t = name))]) ∧ w' = w := by
  by_cases h : t = name
  · subst h
    have t0 := sL_yes t
    rw [if_pos rfl, decide_eq_true rfl]
    go_enter Tryd.func15, Tryd.ntmps15
    go_wp2
    go_ret2
    exact ⟨rfl, rfl⟩
  · have t0 := sL_no h
    rw [if_neg h, decide_eq_false h]
    go_enter Tryd.func15, Tryd.ntmps15
    go_wp2
    go_ret2
    exact ⟨rfl, rfl⟩
set_option maxHeartbeats 1000000 in
theorem by2_any (t : ByteArray) (w : World) (ht : t.size ≤ 1048576) :
    Calls Tryd.prog 16 #[.string t] w fun e w' => e = .returned (.tuple #[.string (⟨#[38]⟩ ++ t ++ ⟨#[59]⟩), .bool true]) ∧ w' = w := by
  have z1 : (⟨#[38]⟩ : ByteArray).size = 1 := rfl
  have z2 : (⟨#[59]⟩ : ByteArray).size = 1 := rfl
  have hS1 := fun w' => run_string_add (P := Tryd.prog) w' ⟨#[38]⟩ t (by rw [z1]; omega) (by omega)
  have hS2 := fun w' => run_string_add (P := Tryd.prog) w' (⟨#[38]⟩ ++ t) ⟨#[59]⟩ (by rw [ByteArray.size_append, z1]; omega) (by rw [z2]; omega)
  clear z1 z2
  go_enter Tryd.func16, Tryd.ntmps16
  go_wp2
  go_ret2
  exact ⟨rfl, rfl⟩
end Go.Proofs.YtgbdkiphnghojaaDoor
