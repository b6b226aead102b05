/- dtd.New: a table without things. Conditions: none. -/
import Derived.Test.YtapjmfgpdkghlaaDoorDtList
namespace Go.Proofs.YtapjmfgpdkghlaaDoor
open Go.RowKit Go.Maps
set_option linter.unusedVariables false
set_option linter.unusedSimpArgs false
def NewTold (w : World) (e : Ending) (w' : World) : Prop := ∃ tb T, e = .returned (.pointer (some ⟨tb, 0, none⟩)) ∧ TabAt w' w.heap.size tb T ∧ T.st = TSt.nil ∧ Below w.heap.size w w'
theorem new_any (w : World) : Calls Tryd.prog 29 #[] w (NewTold w) := by
  go_enter Tryd.func29, Tryd.ntmps29
  go_wp2_with fail
  refine (begunEn_any _).mono ?_
  rintro e w1 ⟨R1, rfl, h1, b1⟩
  have H1 := Lib.hid h1
  have B1 := Lib.hid b1
  clear h1 b1
  go_wp2_with fail
  refine (begunEn_any _).mono ?_
  rintro e w2 ⟨R2, rfl, h2, b2⟩
  have H2 := Lib.hid h2
  have B2 := Lib.hid b2
  clear h2 b2
  go_wp2_with fail
  refine (begunEx_any _).mono ?_
  rintro e w3 ⟨R3, rfl, h3, b3⟩
  have H3 := Lib.hid h3
  have B3 := Lib.hid b3
  clear h3 b3
  go_wp2_with fail
  refine (begunEl_any _).mono ?_
  rintro e w4 ⟨R4, rfl, h4, b4⟩
  obtain ⟨W5, hW5, hsW5, hB5, x5⟩ := boxWorld w4 #[.pointer (some ⟨R1.rb, 0, none⟩), .pointer (some ⟨R2.rb, 0, none⟩), .pointer (some ⟨R3.rb, 0, none⟩), .pointer (some ⟨R4.rb, 0, none⟩)] 71
  have H4 := Lib.hid h4
  have B4 := Lib.hid b4
  have B5 := Lib.hid hB5
  have X5 := Lib.hid x5
  clear h4 b4 hB5 x5 hsW5
  go_wp2
  go_ret
  have B1 := B1.out
  have B2 := B2.out
  have B3 := B3.out
  have B4 := B4.out
  have B5 := B5.out
  have b12 := B1.trans (B2.mono B1.size)
  have b13 := b12.trans (B3.mono b12.size)
  have b14 := b13.trans (B4.mono b13.size)
  have b15 := b14.trans (B5.mono b14.size)
  have r1 := (H1.out.below B2).below B3 |>.below B4 |>.below B5
  have r2 := ((H2.out.below B3).below B4).below B5
  have r3 := (H3.out.below B4).below B5
  have r4 := H4.out.below B5
  have q2 := r2.lower B1.size
  have q3 := r3.lower b12.size
  have q4 := r4.lower b13.size
  refine ⟨w4.heap.size, ⟨R1, R2, R3, R4, [], [], [], []⟩, rfl, ⟨X5.out, b14.size, r1, q2, q3, q4, (fun x hx => absurd hx List.not_mem_nil), (fun x hx => absurd hx List.not_mem_nil), ?_⟩, rfl, b15⟩
  have f1 : ∀ k, R1.foot k → k < w1.heap.size := fun k hk => (H1.out.lt hk).1
  have f2 : ∀ k, R2.foot k → k < w2.heap.size ∧ w1.heap.size ≤ k := fun k hk => H2.out.lt hk
  have f3 : ∀ k, R3.foot k → k < w3.heap.size ∧ w2.heap.size ≤ k := fun k hk => H3.out.lt hk
  have f4 : ∀ k, R4.foot k → w3.heap.size ≤ k := fun k hk => (H4.out.lt hk).2
  have s2 := B2.size
  have s3 := B3.size
  refine List.Pairwise.cons ?_ (List.Pairwise.cons ?_ (List.Pairwise.cons ?_ (List.Pairwise.cons ?_ List.Pairwise.nil)))
  · intro y hy k hk hk2
    simp at hy
    have := f1 k hk
    rcases hy with rfl | rfl | rfl
    · have := f2 k hk2; omega
    · have := f3 k hk2; omega
    · have := f4 k hk2; omega
  · intro y hy k hk hk2
    simp at hy
    have := f2 k hk
    rcases hy with rfl | rfl
    · have := f3 k hk2; omega
    · have := f4 k hk2; omega
  · intro y hy k hk hk2
    simp at hy
    have := f3 k hk
    subst hy
    have := f4 k hk2; omega
  · intro y hy; simp at hy
end Go.Proofs.YtapjmfgpdkghlaaDoor
