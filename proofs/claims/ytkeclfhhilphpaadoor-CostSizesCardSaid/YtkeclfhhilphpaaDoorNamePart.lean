/- The contracts of Name, Plain, IsName, IsPlain, IsToken, and of Part and the reference's Part. Conditions: the tables of chars and of utf hold what the text gives them. -/
import Derived.Test.YtkeclfhhilphpaaDoorNameRead
import Derived.Test.YtkeclfhhilphpaaDoorNamePlain2
import Derived.Test.YtkeclfhhilphpaaDoorShelf
import Derived.Lib.IndexLaws
import Derived.Laws.EntriesVeiled
namespace Go.Proofs.YtkeclfhhilphpaaDoor
open Go.RowKit Go.Proofs.YtkeclfhhilphpaaDoor.UtfPlain Go.Proofs.YtkeclfhhilphpaaDoor.CharsPlain Go.Proofs.YtkeclfhhilphpaaDoor.NamePlain
theorem mayK_t (plain : Bool) : mayK true plain = fun r => isStart r && !(plain && r == 58) := rfl
theorem mayK_tf : mayK true false = isStart := by funext r; simp [mayK]
theorem mayK_ff : mayK false false = isName := by funext r; simp [mayK]
theorem may_start (w : World) (ht : Tabs w) : MayF0 63 isStart w :=
  ⟨enters_of Tryd.func63 (by kernel_rfl) rfl, fun r W hW => start_any r W (ht.below hW ht.size)⟩
theorem may_more (w : World) (ht : Tabs w) : MayF0 64 isName w :=
  ⟨enters_of Tryd.func64 (by kernel_rfl) rfl, fun r W hW => name_any r W (ht.below hW ht.size)⟩
theorem isF_any (fid : FuncId) (w : World) : Calls Tryd.prog 62 #[.func (.func fid) #[] #[]] w fun e w' => e = .returned (.func (.func 66) #[] #[.pointer (some ⟨w.heap.size, 0, none⟩)]) ∧ w' = w.alloc (.cells #[.func (.func fid) #[] #[]] 96) := by
  go_enter Tryd.func62, Tryd.ntmps62
  go_wp2
  go_ret
  exact ⟨rfl, rfl⟩
set_option maxHeartbeats 1000000 in
theorem isBut_any (fid b : Nat) (f : Int → Bool) (r : Int) (w : World) (hm : MayF0 fid f w) (hc : w.cell? ⟨b, 0, none⟩ = some (.func (.func fid) #[] #[])) :
    Calls Tryd.prog 66 #[.int .i64 r, .pointer (some ⟨b, 0, none⟩)] w (BelB (f r && !(r == 58)) w) := by
  have eg := hm.1
  have C := Lib.hid (hm.2 r w (Below.refl _ _))
  clear hm
  by_cases h : r = 58
  · subst h
    go_enter Tryd.func66, Tryd.ntmps66
    go_wp2
    go_ret
    exact ⟨ret_bool (by simp), Below.refl _ _⟩
  · have q1 : (r != 58) = true := by simpa using h
    have R : Hid ((f r && !(r == 58)) = f r) := by show _ = _; simp [h]
    clear h
    go_enter Tryd.func66, Tryd.ntmps66
    go_wp2_with fail
    refine C.out.mono ?_
    rintro x w2 ⟨rfl, hB⟩
    go_wp2
    go_ret
    exact ⟨ret_bool (by rw [R.out]), hB⟩
theorem may_but (fid b : Nat) (f g : Int → Bool) (w : World) (hm : MayF0 fid f w) (hg : ∀ r, g r = (f r && !(r == 58))) (hc : w.cell? ⟨b, 0, none⟩ = some (.func (.func fid) #[] #[])) (hb : b < w.heap.size) :
    MayF1 66 (.pointer (some ⟨b, 0, none⟩)) g w :=
  ⟨enters_of Tryd.func66 (by kernel_rfl) rfl, fun r W hW => by
    rw [hg r]; exact isBut_any fid b f r W (hm.below hW) ((hW.cell (p := ⟨b, 0, none⟩) hb).trans hc)⟩
theorem three_cells (w : World) (o : Obj) (u v : Value) (s t : TypeId) : (((w.alloc o).alloc (.cells #[u] s)).alloc (.cells #[v] t)).cell? ⟨w.heap.size + 1, 0, none⟩ = some u ∧ (((w.alloc o).alloc (.cells #[u] s)).alloc (.cells #[v] t)).cell? ⟨w.heap.size + 1 + 1, 0, none⟩ = some v ∧ (((w.alloc o).alloc (.cells #[u] s)).alloc (.cells #[v] t)).heap.size = w.heap.size + 3 := by
  refine ⟨?_, ?_, by simp⟩
  · go_simp
  · go_simp
set_option maxHeartbeats 1000000 in
theorem plains_any (w : World) (ht : Tabs w) : Calls Tryd.prog 57 #[] w fun e w' => ∃ c1 c2, e = .returned (.agg #[.func (.func 66) #[] #[c1], .func (.func 66) #[] #[c2]]) ∧ MayF1 66 c1 (mayK true true) w' ∧ MayF1 66 c2 (mayK false true) w' ∧ Below w.heap.size w w' := by
  have HT := Lib.hid ht
  clear ht
  go_enter Tryd.func57, Tryd.ntmps57
  go_wp2_with fail
  refine (isF_any _ _).mono ?_
  rintro x w1 ⟨rfl, rfl⟩
  go_wp2_with fail
  refine (isF_any _ _).mono ?_
  rintro x w2 ⟨rfl, rfl⟩
  go_wp2
  have hB : Below w.heap.size w (((w.alloc (.cells #[.func (.func 66) #[] #[.pointer (some ⟨w.heap.size + 1, 0, none⟩)], .func (.func 66) #[] #[.pointer (some ⟨w.heap.size + 1 + 1, 0, none⟩)]] 113)).alloc (.cells #[.func (.func 63) #[] #[]] 96)).alloc (.cells #[.func (.func 64) #[] #[]] 96)) :=
    (((Below.refl _ w).alloc (Nat.le_refl _) _).alloc (by simp) _).alloc (by simp; omega) _
  refine bodyPost_ret (v := .agg #[.func (.func 66) #[] #[.pointer (some ⟨w.heap.size + 1, 0, none⟩)], .func (.func 66) #[] #[.pointer (some ⟨w.heap.size + 1 + 1, 0, none⟩)]]) (by simp [results, Tryd.results57, go_sem]) rfl ⟨_, _, rfl, ?_, ?_, hB⟩
  · exact may_but _ _ isStart _ _ (may_start _ (HT.out.below hB HT.out.size)) (fun r => by simp [mayK]) (three_cells w _ _ _ _ _).1 (by rw [(three_cells w _ _ _ _ _).2.2]; omega)
  · exact may_but _ _ isName _ _ (may_more _ (HT.out.below hB HT.out.size)) (fun r => by simp [mayK]) (three_cells w _ _ _ _ _).2.1 (by rw [(three_cells w _ _ _ _ _).2.2]; omega)
set_option maxHeartbeats 1000000 in
theorem plainAt_any (A : Option Addr) (n cp : Nat) (at_ : Int) (xs : List Int) (w : World) (hn : n ≤ 140737488355328) (hcp : n ≤ cp) (hcp2 : cp ≤ 9223372036854775807) (hb : BytesAt w A n xs) (hf : FormsAt w) (ht : Tabs w) :
    Calls Tryd.prog 53 #[.slice A n cp, .int .i64 at_] w (TellRead (readN xs true at_) w) := by
  have HB := Lib.hid hb
  have HF := Lib.hid hf
  have HT := Lib.hid ht
  clear hb hf ht
  go_enter Tryd.func53, Tryd.ntmps53
  go_wp2_with fail
  refine (plains_any _ HT.out).mono ?_
  rintro x w1 ⟨c1, c2, rfl, hm1, hm2, hB1⟩
  have M1 := Lib.hid hm1
  have M2 := Lib.hid hm2
  clear hm1 hm2
  go_wp2_with fail
  refine (read1_any true _ _ c1 c2 A n cp at_ xs w1 hn hcp hcp2 (HB.out.below hB1) (HF.out.below hB1 HF.out.size) M1.out M2.out).mono ?_
  rintro x w2 ⟨rfl, hB2⟩
  go_wp2
  go_ret3
  exact ⟨rfl, hB1.trans (hB2.mono hB1.size)⟩
end Go.Proofs.YtkeclfhhilphpaaDoor
