/- The page's example of layer 17 holds. Conditions: cref.known as the text lays it. -/
import Derived.Test.YtapjmfgpdkghlaaDoorDtFill
namespace Go.Proofs.YtapjmfgpdkghlaaDoor
open Go.RowKit Go.Maps
set_option linter.unusedVariables false
set_option linter.unusedSimpArgs false
def liveE (s : ByteArray) : Ent := ⟨⟨#[97]⟩, s, false, ⟨#[]⟩, ⟨#[]⟩, ⟨#[]⟩⟩
def liveD (s : ByteArray) : Dc := ⟨1, ⟨#[]⟩, false, liveE s, [], none, 0, ⟨#[]⟩, ⟨#[]⟩, ⟨#[]⟩⟩
theorem liveD_ok (s : ByteArray) : OkDc (liveD s).pl := ⟨Nat.zero_le _, by show (0 : Nat) ≤ 300; omega, by show (1 : Nat) ≤ 300; omega, fun x hx => by cases hx⟩
theorem live_st : tAdd (tAdd TSt.nil (liveD ⟨#[120]⟩).pl) (liveD ⟨#[121]⟩).pl = ⟨[liveE ⟨#[120]⟩], [], [], []⟩ := by kernel_rfl
theorem live_has : hasT ([liveE ⟨#[120]⟩].map Ent.na) ⟨#[97]⟩ = true := by kernel_rfl
theorem live_find : findE [liveE ⟨#[120]⟩] ⟨#[97]⟩ = liveE ⟨#[120]⟩ := by kernel_rfl
def LiveEnd (w : World) (e : Ending) (w' : World) : Prop := e = .returned (.bool true) ∧ Below w.heap.size w w'
theorem dfs_none (w : World) : DfsAt w none 0 [] := ⟨rfl, fun i hi => absurd hi (Nat.not_lt_zero _)⟩
set_option maxRecDepth 100000 in
set_option maxHeartbeats 4000000 in
theorem live17_any (w : World) (hK : KnownAt w) : Calls Tryd.prog 7 #[] w (LiveEnd w) := by
  have HKN := Lib.hid hK
  clear hK
  go_enter Tryd.func7, Tryd.ntmps7
  go_wp2_with fail
  refine (new_any w).mono ?_
  rintro e w1 ⟨tb, T0, rfl, ht0, hst0, hB1⟩
  have C1 := Lib.hid (show Calls Tryd.prog 26 #[.pointer (some ⟨tb, 0, none⟩), .agg #[.int .i64 1, .string ⟨#[]⟩, .bool false, .string ⟨#[97]⟩, .string ⟨#[120]⟩, .bool false, .string ⟨#[]⟩, .string ⟨#[]⟩, .string ⟨#[]⟩, .slice none 0 0, .string ⟨#[]⟩, .string ⟨#[]⟩, .string ⟨#[]⟩]] w1 (TabTold w.heap.size tb T0 (tAdd T0.st (liveD ⟨#[120]⟩).pl) (.int .i64 (tOk (liveD ⟨#[120]⟩).pl)) w1) from
    add_one (d := liveD ⟨#[120]⟩) (A := none) (c := 0) (k := 0) ht0 rfl hB1 (dfs_none w) (liveD_ok _) HKN.out (by rw [hst0]; exact Bnd.nil) (by omega) (World.ownsRow_nil _ _ _ _) (fun a ha => by cases ha))
  have HT0 := Lib.hid ht0
  have HS0 := Lib.hid hst0
  have HB1 := Lib.hid hB1
  clear ht0 hst0 hB1
  go_wp2_with fail
  refine C1.out.mono ?_
  rintro e w2 ⟨rfl, T1, hk1, hst1⟩
  have HT1 := Lib.hid hk1.tab
  have HB2 := Lib.hid (HB1.out.trans (hk1.belowB HT0.out HB1.out.size))
  have HS1 := Lib.hid hst1
  have C2 := Lib.hid (show Calls Tryd.prog 26 #[.pointer (some ⟨tb, 0, none⟩), .agg #[.int .i64 1, .string ⟨#[]⟩, .bool false, .string ⟨#[97]⟩, .string ⟨#[121]⟩, .bool false, .string ⟨#[]⟩, .string ⟨#[]⟩, .string ⟨#[]⟩, .slice none 0 0, .string ⟨#[]⟩, .string ⟨#[]⟩, .string ⟨#[]⟩]] w2 (TabTold w.heap.size tb T1 (tAdd T1.st (liveD ⟨#[121]⟩).pl) (.int .i64 (tOk (liveD ⟨#[121]⟩).pl)) w2) from
    add_one (d := liveD ⟨#[121]⟩) (A := none) (c := 0) (k := 1) HT1.out rfl HB2.out (dfs_none w) (liveD_ok _) HKN.out (by rw [hst1, HS0.out]; exact Bnd.nil.add (liveD_ok _)) (by omega) (World.ownsRow_nil _ _ _ _) (fun a ha => by cases ha))
  clear hk1 hst1 C1
  go_wp2_with fail
  refine C2.out.mono ?_
  rintro e w3 ⟨rfl, T2, hk2, hst2⟩
  have HT2 := Lib.hid hk2.tab
  have HB3 := Lib.hid (HB2.out.trans (hk2.belowB HT1.out HB2.out.size))
  have hs2 : T2.st = ⟨[liveE ⟨#[120]⟩], [], [], []⟩ := by rw [hst2, HS1.out, HS0.out]; exact live_st
  have hg : T2.gens = [liveE ⟨#[120]⟩] := congrArg TSt.gens hs2
  have C3 := general_any HT2.out ⟨#[97]⟩ (by show (1 : Nat) ≤ maxLen; unfold maxLen; omega) (by rw [hg]; show (1 : Nat) ≤ _; omega)
  unfold TellE at C3
  rw [hg, live_find, live_has] at C3
  have C3 := Lib.hid C3
  have HS2 := Lib.hid hs2
  clear hk2 hst2 hs2 hg C2
  go_wp2_with fail
  refine C3.out.mono ?_
  rintro e w4 ⟨rfl, hB4⟩
  obtain ⟨W5, hW5, hs5, hB5, bx5⟩ := boxWorld w4 #[.string ⟨#[97]⟩, .string ⟨#[120]⟩, .bool false, .string ⟨#[]⟩, .string ⟨#[]⟩, .string ⟨#[]⟩] 46
  have HW5 := Lib.hid hW5
  have y1 : W5.cell? ⟨w4.heap.size, 1, none⟩ = some (.string ⟨#[120]⟩) := cellsOf_block bx5 rfl
  have ht5 := (HT2.out.below hB4).below hB5
  have hl : lenM T2 = 1 := by rw [lenM_is, HS2.out]; rfl
  have hel : T2.els.length = 0 := by
    have := congrArg (fun S : TSt => S.els.length) HS2.out
    unfold Tm.st at this
    simpa using this
  have C4 := len_any ht5 (by rw [hl]; omega) (by rw [hel]; omega)
  rw [hl] at C4
  have C4 := Lib.hid C4
  have HB5 := Lib.hid (HB3.out.trans ((hB4.trans (hB5.mono hB4.size)).mono HB3.out.size))
  have q : ((⟨#[120]⟩ : ByteArray).toList == (⟨#[120]⟩ : ByteArray).toList) = true := by simp
  clear hW5 hB4 hB5 bx5 hs5 ht5 hl hel C3
  dsimp only [Ent.v, liveE]
  go_upto_region 5 with (fail)
  rw [HW5.out]
  clear HW5
  go_wp2_with fail
  refine C4.out.mono ?_
  rintro e w6 ⟨rfl, hB6⟩
  have HB6 := Lib.hid (HB5.out.trans (hB6.mono HB5.out.size))
  clear C4 hB6
  go_wp2
  go_ret
  exact ⟨rfl, HB6.out⟩
end Go.Proofs.YtapjmfgpdkghlaaDoor
