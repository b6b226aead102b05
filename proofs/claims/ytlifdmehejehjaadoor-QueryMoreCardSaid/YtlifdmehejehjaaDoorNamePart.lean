/- The contracts of Name, Plain, IsName, IsPlain, IsToken, and of Part and the reference's Part. Conditions: the tables of chars and of utf hold what the text gives them. -/
import Derived.Test.YtlifdmehejehjaaDoorNameRead
import Derived.Test.YtlifdmehejehjaaDoorNamePlain2
import Derived.Test.YtlifdmehejehjaaDoorShelf
import Derived.Lib.IndexLaws
import Derived.Laws.EntriesVeiled
namespace Go.Proofs.YtlifdmehejehjaaDoor
open Go.RowKit Go.Proofs.YtlifdmehejehjaaDoor.UtfPlain Go.Proofs.YtlifdmehejehjaaDoor.CharsPlain Go.Proofs.YtlifdmehejehjaaDoor.NamePlain
theorem mayK_t (plain : Bool) : mayK true plain = fun r => isStart r && !(plain && r == 58) := rfl
theorem mayK_tf : mayK true false = isStart := by funext r; simp [mayK]
theorem mayK_ff : mayK false false = isName := by funext r; simp [mayK]
theorem may_start (w : World) (ht : Tabs w) : MayF0 61 isStart w :=
  ⟨enters_of Tryd.func61 (by kernel_rfl) rfl, fun r W hW => start_any r W (ht.below hW ht.size)⟩
theorem may_more (w : World) (ht : Tabs w) : MayF0 62 isName w :=
  ⟨enters_of Tryd.func62 (by kernel_rfl) rfl, fun r W hW => name_any r W (ht.below hW ht.size)⟩
theorem isF_any (fid : FuncId) (w : World) : Calls Tryd.prog 60 #[.func (.func fid) #[] #[]] w fun e w' => e = .returned (.func (.func 73) #[] #[.pointer (some ⟨w.heap.size, 0, none⟩)]) ∧ w' = w.alloc (.cells #[.func (.func fid) #[] #[]] 103) := by
  go_enter Tryd.func60, Tryd.ntmps60
  go_wp2
  go_ret
  exact ⟨rfl, rfl⟩
set_option maxHeartbeats 1000000 in
theorem isBut_any (fid b : Nat) (f : Int → Bool) (r : Int) (w : World) (hm : MayF0 fid f w) (hc : w.cell? ⟨b, 0, none⟩ = some (.func (.func fid) #[] #[])) :
    Calls Tryd.prog 73 #[.int .i64 r, .pointer (some ⟨b, 0, none⟩)] w (BelB (f r && !(r == 58)) w) := by
  have eg := hm.1
  have C := Lib.hid (hm.2 r w (Below.refl _ _))
  clear hm
  by_cases h : r = 58
  · subst h
    go_enter Tryd.func73, Tryd.ntmps73
    go_wp2
    go_ret
    exact ⟨ret_bool (by simp), Below.refl _ _⟩
  · have q1 : (r != 58) = true := by simpa using h
    have R : Hid ((f r && !(r == 58)) = f r) := by show _ = _; simp [h]
    clear h
    go_enter Tryd.func73, Tryd.ntmps73
    go_wp2_with fail
    refine C.out.mono ?_
    rintro x w2 ⟨rfl, hB⟩
    go_wp2
    go_ret
    exact ⟨ret_bool (by rw [R.out]), hB⟩
theorem may_but (fid b : Nat) (f g : Int → Bool) (w : World) (hm : MayF0 fid f w) (hg : ∀ r, g r = (f r && !(r == 58))) (hc : w.cell? ⟨b, 0, none⟩ = some (.func (.func fid) #[] #[])) (hb : b < w.heap.size) :
    MayF1 73 (.pointer (some ⟨b, 0, none⟩)) g w :=
  ⟨enters_of Tryd.func73 (by kernel_rfl) rfl, fun r W hW => by
    rw [hg r]; exact isBut_any fid b f r W (hm.below hW) ((hW.cell (p := ⟨b, 0, none⟩) hb).trans hc)⟩
theorem three_cells (w : World) (o : Obj) (u v : Value) (s t : TypeId) : (((w.alloc o).alloc (.cells #[u] s)).alloc (.cells #[v] t)).cell? ⟨w.heap.size + 1, 0, none⟩ = some u ∧ (((w.alloc o).alloc (.cells #[u] s)).alloc (.cells #[v] t)).cell? ⟨w.heap.size + 1 + 1, 0, none⟩ = some v ∧ (((w.alloc o).alloc (.cells #[u] s)).alloc (.cells #[v] t)).heap.size = w.heap.size + 3 := by
  refine ⟨?_, ?_, by simp⟩
  · go_simp
  · go_simp
set_option maxHeartbeats 1000000 in
theorem plains_any (w : World) (ht : Tabs w) : Calls Tryd.prog 51 #[] w fun e w' => ∃ c1 c2, e = .returned (.agg #[.func (.func 73) #[] #[c1], .func (.func 73) #[] #[c2]]) ∧ MayF1 73 c1 (mayK true true) w' ∧ MayF1 73 c2 (mayK false true) w' ∧ Below w.heap.size w w' := by
  have HT := Lib.hid ht
  clear ht
  go_enter Tryd.func51, Tryd.ntmps51
  go_wp2_with fail
  refine (isF_any _ _).mono ?_
  rintro x w1 ⟨rfl, rfl⟩
  go_wp2_with fail
  refine (isF_any _ _).mono ?_
  rintro x w2 ⟨rfl, rfl⟩
  go_wp2
  have hB : Below w.heap.size w (((w.alloc (.cells #[.func (.func 73) #[] #[.pointer (some ⟨w.heap.size + 1, 0, none⟩)], .func (.func 73) #[] #[.pointer (some ⟨w.heap.size + 1 + 1, 0, none⟩)]] 105)).alloc (.cells #[.func (.func 61) #[] #[]] 103)).alloc (.cells #[.func (.func 62) #[] #[]] 103)) :=
    (((Below.refl _ w).alloc (Nat.le_refl _) _).alloc (by simp) _).alloc (by simp; omega) _
  refine bodyPost_ret (v := .agg #[.func (.func 73) #[] #[.pointer (some ⟨w.heap.size + 1, 0, none⟩)], .func (.func 73) #[] #[.pointer (some ⟨w.heap.size + 1 + 1, 0, none⟩)]]) (by simp [results, Tryd.results51, go_sem]) rfl ⟨_, _, rfl, ?_, ?_, hB⟩
  · exact may_but _ _ isStart _ _ (may_start _ (HT.out.below hB HT.out.size)) (fun r => by simp [mayK]) (three_cells w _ _ _ _ _).1 (by rw [(three_cells w _ _ _ _ _).2.2]; omega)
  · exact may_but _ _ isName _ _ (may_more _ (HT.out.below hB HT.out.size)) (fun r => by simp [mayK]) (three_cells w _ _ _ _ _).2.1 (by rw [(three_cells w _ _ _ _ _).2.2]; omega)
set_option maxHeartbeats 1000000 in
theorem isPlain_any (s : ByteArray) (w : World) (hs : s.size ≤ 1099511627776) (hf : FormsAt w) (ht : Tabs w) :
    Calls Tryd.prog 43 #[.string s] w (BelB (isN (bsOf s) true) w) := by
  have HF := Lib.hid hf
  have HT := Lib.hid ht
  clear hf ht
  go_enter Tryd.func43, Tryd.ntmps43
  go_wp2_with fail
  refine (plains_any _ HT.out).mono ?_
  rintro x w1 ⟨c1, c2, rfl, hm1, hm2, hB1⟩
  have M1 := Lib.hid hm1
  have M2 := Lib.hid hm2
  clear hm1 hm2
  go_wp2_with fail
  refine (whole1_any true _ _ c1 c2 s w1 hs (HF.out.below hB1 HF.out.size) M1.out M2.out).mono ?_
  rintro x w2 ⟨rfl, hB2⟩
  go_wp2
  go_ret
  exact ⟨rfl, hB1.trans (hB2.mono hB1.size)⟩
end Go.Proofs.YtlifdmehejehjaaDoor
