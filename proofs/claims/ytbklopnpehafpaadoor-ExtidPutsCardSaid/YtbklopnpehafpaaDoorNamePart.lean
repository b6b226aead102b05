/- The contracts of Name, Plain, IsName, IsPlain, IsToken, and of Part and the reference's Part. Conditions: the tables of chars and of utf hold what the text gives them. -/
import Derived.Test.YtbklopnpehafpaaDoorNameRead
import Derived.Test.YtbklopnpehafpaaDoorNamePlain2
import Derived.Test.YtbklopnpehafpaaDoorShelf
import Derived.Lib.IndexLaws
import Derived.Laws.EntriesVeiled
namespace Go.Proofs.YtbklopnpehafpaaDoor
open Go.RowKit Go.Proofs.YtbklopnpehafpaaDoor.UtfPlain Go.Proofs.YtbklopnpehafpaaDoor.CharsPlain Go.Proofs.YtbklopnpehafpaaDoor.NamePlain
theorem names_any (w : World) : Calls Tryd.prog 26 #[] w fun e w' => e = .returned (.agg #[.func (.func 42) #[] #[], .func (.func 43) #[] #[]]) ∧ Below w.heap.size w w' := by
  go_enter Tryd.func26, Tryd.ntmps26
  go_wp2
  exact bodyPost_ret (v := .agg #[.func (.func 42) #[] #[], .func (.func 43) #[] #[]]) (by simp [results, Tryd.results26, go_sem]) rfl ⟨rfl, (Below.refl _ _).alloc (Nat.le_refl _) _⟩
theorem mayK_t (plain : Bool) : mayK true plain = fun r => isStart r && !(plain && r == 58) := rfl
theorem mayK_tf : mayK true false = isStart := by funext r; simp [mayK]
theorem mayK_ff : mayK false false = isName := by funext r; simp [mayK]
theorem may_start (w : World) (ht : Tabs w) : MayF0 42 isStart w :=
  ⟨enters_of Tryd.func42 (by kernel_rfl) rfl, fun r W hW => start_any r W (ht.below hW ht.size)⟩
theorem may_more (w : World) (ht : Tabs w) : MayF0 43 isName w :=
  ⟨enters_of Tryd.func43 (by kernel_rfl) rfl, fun r W hW => name_any r W (ht.below hW ht.size)⟩
theorem three_cells (w : World) (o : Obj) (u v : Value) (s t : TypeId) : (((w.alloc o).alloc (.cells #[u] s)).alloc (.cells #[v] t)).cell? ⟨w.heap.size + 1, 0, none⟩ = some u ∧ (((w.alloc o).alloc (.cells #[u] s)).alloc (.cells #[v] t)).cell? ⟨w.heap.size + 1 + 1, 0, none⟩ = some v ∧ (((w.alloc o).alloc (.cells #[u] s)).alloc (.cells #[v] t)).heap.size = w.heap.size + 3 := by
  refine ⟨?_, ?_, by simp⟩
  · go_simp
  · go_simp
set_option maxHeartbeats 1000000 in
theorem nameAt_any (A : Option Addr) (n cp : Nat) (at_ : Int) (xs : List Int) (w : World) (hn : n ≤ 140737488355328) (hcp : n ≤ cp) (hcp2 : cp ≤ 9223372036854775807) (hb : BytesAt w A n xs) (hf : FormsAt w) (ht : Tabs w) :
    Calls Tryd.prog 13 #[.slice A n cp, .int .i64 at_] w (TellRead (readN xs false at_) w) := by
  have HB := Lib.hid hb
  have HF := Lib.hid hf
  have HT := Lib.hid ht
  clear hb hf ht
  go_enter Tryd.func13, Tryd.ntmps13
  go_wp2_with fail
  refine (names_any _).mono ?_
  rintro x w1 ⟨rfl, hB1⟩
  go_wp2_with fail
  refine (read0_any false _ _ A n cp at_ xs w1 hn hcp hcp2 (HB.out.below hB1) (HF.out.below hB1 HF.out.size) (by rw [mayK_tf]; exact may_start _ (HT.out.below hB1 HT.out.size)) (by rw [mayK_ff]; exact may_more _ (HT.out.below hB1 HT.out.size))).mono ?_
  rintro x w2 ⟨rfl, hB2⟩
  go_wp2
  go_ret3
  exact ⟨rfl, hB1.trans (hB2.mono hB1.size)⟩
end Go.Proofs.YtbklopnpehafpaaDoor
