/- What no meter tells; meter.Bound and the reference's Bound. Conditions: numbers that Go can hold. -/
import Derived.Test.YtfkeceggiddlbaaGreatDoorMeterUse
import Derived.Test.YtfkeceggiddlbaaGreatDoorSatB
namespace Go.Proofs.YtfkeceggiddlbaaGreatDoor
open Go.RowKit Go.Shelf Go.Proofs.YtfkeceggiddlbaaGreatDoor.CharsPlain Go.Proofs.YtfkeceggiddlbaaGreatDoor.UriPlain Go.Proofs.YtfkeceggiddlbaaGreatDoor.SatPlain
set_option linter.unusedVariables false
set_option linter.unusedSimpArgs false
theorem nilSpend_any (x : Int) (w : World) : Calls Tryz.prog 11 #[.pointer none, .int .i64 x] w (RetI 1 w) := by
  go_enter Tryz.func11, Tryz.ntmps11
  go_wp2
  go_ret
  exact ⟨rfl, rfl⟩
theorem nilDeep_any (x : Int) (w : World) : Calls Tryz.prog 19 #[.pointer none, .int .i64 x] w (RetI 1 w) := by
  go_enter Tryz.func19, Tryz.ntmps19
  go_wp2
  go_ret
  exact ⟨rfl, rfl⟩
theorem nilWide_any (x : Int) (w : World) : Calls Tryz.prog 20 #[.pointer none, .int .i64 x] w (RetI 1 w) := by
  go_enter Tryz.func20, Tryz.ntmps20
  go_wp2
  go_ret
  exact ⟨rfl, rfl⟩
theorem nilSpent_any (w : World) : Calls Tryz.prog 16 #[.pointer none] w (RetI 0 w) := by
  go_enter Tryz.func16, Tryz.ntmps16
  go_wp2
  go_ret
  exact ⟨rfl, rfl⟩
theorem nilOut_any (w : World) : Calls Tryz.prog 17 #[.pointer none] w (RetI 0 w) := by
  go_enter Tryz.func17, Tryz.ntmps17
  go_wp2
  go_ret
  exact ⟨rfl, rfl⟩
theorem nilWork_any (w : World) : Calls Tryz.prog 18 #[.pointer none] w (RetI 0 w) := by
  go_enter Tryz.func18, Tryz.ntmps18
  go_wp2
  go_ret
  exact ⟨rfl, rfl⟩
theorem nilEmit_any (k : Int) (s l t : ByteArray) (A : Option Addr) (n c : Nat) (w : World) : Calls Tryz.prog 13 #[.pointer none, .agg #[.int .i64 k, .string s, .string l, .slice A n c, .string t]] w (TellI 1 w) := by
  go_enter Tryz.func13, Tryz.ntmps13
  go_wp2
  go_ret
  exact ⟨rfl, (Below.refl _ _).alloc (Nat.le_refl _) _⟩
theorem fiveAt (w : World) (a b c d e : Int) (g : Nat) (hg : g = w.heap.size) : IntsAt (w.alloc (.cells #[.int .i64 a, .int .i64 b, .int .i64 c, .int .i64 d, .int .i64 e] 3)) (some ⟨g, 0, none⟩) 5 [a, b, c, d, e] := by
  subst hg
  exact IntsAt.of_own (xs := [a, b, c, d, e]) (c := 5) (base := w.heap.size) (e := 3) (World.ownsRow_lit (size := 1) w #[.int .i64 a, .int .i64 b, .int .i64 c, .int .i64 d, .int .i64 e] 5 (Nat.le_refl _) (by decide) rfl)
def boundM (n a b f : Int) : Int := sumS [mulS 3 n, mulS 4 a, mulS 4 f, mulS 2 b, 8]
def IntBd (x : Int) : Prop := x ≤ 9223372036854775807
theorem five_b (n a b f : Int) : ∀ z ∈ [mulS 3 n, mulS 4 a, mulS 4 f, mulS 2 b, 8], -9223372036854775808 ≤ z ∧ z ≤ 9223372036854775807 := by
  intro z hz
  simp only [List.mem_cons, List.not_mem_nil, or_false] at hz
  rcases hz with rfl | rfl | rfl | rfl | rfl
  · have := mulS_b 3 n; omega
  · have := mulS_b 4 a; omega
  · have := mulS_b 4 f; omega
  · have := mulS_b 2 b; omega
  · omega
theorem IntsAt.drewI {w : World} {A : Option Addr} {n : Nat} {xs : List Int} (h : IntsAt w A n xs) : IntsAt w.drew A n xs := h
set_option maxRecDepth 100000 in
set_option maxHeartbeats 2000000 in
theorem rbound_any (a b c d e f : Int) (A : Option Addr) (n cp : Nat) (x : Int) (w : World) (hx : x ≤ 9223372036854775807) (ha : a ≤ 9223372036854775807) (hb : b ≤ 9223372036854775807) (hf : f ≤ 9223372036854775807) :
    Calls Tryz.prog 23 #[cfgV a b c d e f A n cp, .int .i64 x] w (TellI (boundM x a b f) w) := by
  obtain ⟨W1, hW1⟩ : ∃ W, W = w.alloc (.cells (cfgA a b c d e f A n cp) 24) := ⟨_, rfl⟩
  have hB1 : Below w.heap.size w W1 := by rw [hW1]; exact (Below.refl _ _).alloc (Nat.le_refl _) _
  have hs1 : W1.heap.size = w.heap.size + 1 := by rw [hW1]; simp
  have q0 : W1.cell? ⟨w.heap.size, 0, none⟩ = some (.int .i64 a) := by rw [hW1, World.cell?_alloc_mark]; rfl
  have q1 : W1.cell? ⟨w.heap.size, 1, none⟩ = some (.int .i64 b) := by rw [hW1, World.cell?_alloc_mark]; rfl
  have q5 : W1.cell? ⟨w.heap.size, 5, none⟩ = some (.int .i64 f) := by rw [hW1, World.cell?_alloc_mark]; rfl
  have HX : Hid (∀ o (X : Obj), (W1.alloc X).drew.cell? ⟨w.heap.size, o, none⟩ = W1.cell? ⟨w.heap.size, o, none⟩) := fun o X =>
    ((Below.refl W1.heap.size W1).alloc (Nat.le_refl _) X).cell (p := ⟨w.heap.size, o, none⟩) (by show w.heap.size < W1.heap.size; omega)
  have H5 := Lib.hid (fiveAt W1 (mulS 3 x) (mulS 4 a) (mulS 4 f) (mulS 2 b) 8 W1.heap.size rfl).drewI
  have HB1 := Lib.hid hB1
  have HW1 : Hid (w.alloc (.cells (cfgA a b c d e f A n cp) 24) = W1) := hW1.symm
  clear hW1 hB1 hs1
  unfold cfgV
  unfold cfgA at *
  go_enter Tryz.func23, Tryz.ntmps23
  go_wp2_with fail
  rw [HW1.out]
  go_region_held3 (fun W => W.cell? ⟨w.heap.size, 0, none⟩ = some (.int .i64 a) ∧ W.cell? ⟨w.heap.size, 1, none⟩ = some (.int .i64 b) ∧ W.cell? ⟨w.heap.size, 5, none⟩ = some (.int .i64 f)) (first | exact ⟨q0, q1, q5⟩ | exact ⟨(HX.out 0 _).trans q0, (HX.out 1 _).trans q1, (HX.out 5 _).trans q5⟩)
    (first
    | (go_at_call 35; refine (rmul_any _ _ _ (by omega) (by omega)).mono ?_; rintro e0 w' ⟨rfl, rfl⟩)
    | (go_at_call 34; refine (rsum_any (some ⟨W1.heap.size, 0, none⟩) 5 5 [mulS 3 x, mulS 4 a, mulS 4 f, mulS 2 b, 8] _ (by decide) H5.out (five_b x a b f)).mono ?_; rintro e0 w' ⟨rfl, rfl⟩))
  go_wp2
  go_ret
  exact ⟨rfl, below_drewN (HB1.out.alloc HB1.out.size _) 1⟩
set_option maxRecDepth 100000 in
set_option maxHeartbeats 2000000 in
theorem mbound_any (a b c d e f : Int) (A : Option Addr) (n cp : Nat) (x : Int) (w : World) (hx : x ≤ 9223372036854775807) (ha : a ≤ 9223372036854775807) (hb : b ≤ 9223372036854775807) (hf : f ≤ 9223372036854775807) :
    Calls Tryz.prog 22 #[cfgV a b c d e f A n cp, .int .i64 x] w (TellI (boundM x a b f) w) := by
  obtain ⟨W1, hW1⟩ : ∃ W, W = w.alloc (.cells (cfgA a b c d e f A n cp) 24) := ⟨_, rfl⟩
  have hB1 : Below w.heap.size w W1 := by rw [hW1]; exact (Below.refl _ _).alloc (Nat.le_refl _) _
  have hs1 : W1.heap.size = w.heap.size + 1 := by rw [hW1]; simp
  have q0 : W1.cell? ⟨w.heap.size, 0, none⟩ = some (.int .i64 a) := by rw [hW1, World.cell?_alloc_mark]; rfl
  have q1 : W1.cell? ⟨w.heap.size, 1, none⟩ = some (.int .i64 b) := by rw [hW1, World.cell?_alloc_mark]; rfl
  have q5 : W1.cell? ⟨w.heap.size, 5, none⟩ = some (.int .i64 f) := by rw [hW1, World.cell?_alloc_mark]; rfl
  have HX : Hid (∀ o (X : Obj), (W1.alloc X).drew.cell? ⟨w.heap.size, o, none⟩ = W1.cell? ⟨w.heap.size, o, none⟩) := fun o X =>
    ((Below.refl W1.heap.size W1).alloc (Nat.le_refl _) X).cell (p := ⟨w.heap.size, o, none⟩) (by show w.heap.size < W1.heap.size; omega)
  have H5 := Lib.hid (fiveAt W1 (mulS 3 x) (mulS 4 a) (mulS 4 f) (mulS 2 b) 8 W1.heap.size rfl).drewI
  have HB1 := Lib.hid hB1
  have HW1 : Hid (w.alloc (.cells (cfgA a b c d e f A n cp) 24) = W1) := hW1.symm
  clear hW1 hB1 hs1
  unfold cfgV
  unfold cfgA at *
  go_enter Tryz.func22, Tryz.ntmps22
  go_wp2_with fail
  rw [HW1.out]
  go_region_held3 (fun W => W.cell? ⟨w.heap.size, 0, none⟩ = some (.int .i64 a) ∧ W.cell? ⟨w.heap.size, 1, none⟩ = some (.int .i64 b) ∧ W.cell? ⟨w.heap.size, 5, none⟩ = some (.int .i64 f)) (first | exact ⟨q0, q1, q5⟩ | exact ⟨(HX.out 0 _).trans q0, (HX.out 1 _).trans q1, (HX.out 5 _).trans q5⟩)
    (first
    | (go_at_call 33; refine (mul_any _ _ _ (by omega) (by omega)).mono ?_; rintro e0 w' ⟨rfl, rfl⟩)
    | (go_at_call 32; refine (sum_any (some ⟨W1.heap.size, 0, none⟩) 5 5 [mulS 3 x, mulS 4 a, mulS 4 f, mulS 2 b, 8] _ (by decide) H5.out (five_b x a b f)).mono ?_; rintro e0 w' ⟨rfl, rfl⟩))
  go_wp2
  go_ret
  exact ⟨rfl, below_drewN (HB1.out.alloc HB1.out.size _) 1⟩
end Go.Proofs.YtfkeceggiddlbaaGreatDoor
