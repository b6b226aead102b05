/- graph.Order. Conditions: at most 2^20 places. -/
import Derived.Test.YtignndcjblfocaaDoorGraphOrder
namespace Go.Proofs.YtignndcjblfocaaDoor
open Go.RowKit Go.Proofs.YtignndcjblfocaaDoor.GraphPlain
set_option maxHeartbeats 4000000 in
theorem order_bad (An : Option Addr) (nn cn : Nat) (At : Option Addr) (nt ct : Nat) (R : List (List Int)) (w : World) (hg : GrAt w At nt R) (hb : ∀ r ∈ R, r.length ≤ 9223372036854775806) (hnt : nt ≤ 1048576) (hr : rightN nn R = false) :
    Calls Tryd.prog 15 #[grV An nn cn At nt ct] w fun e w' => e = .returned (.tuple #[.slice none 0 0, .int .i64 2]) ∧ Below w.heap.size w w' := by
  obtain ⟨W, hW, hB, hz, c0, c1⟩ := grBox w An nn cn At nt ct 28
  have C := Lib.hid (right_any An nn cn At nt ct R W (hg.below hB) hb (by omega))
  rw [hr] at C
  have HB := Lib.hid hB
  clear hB hg hb hr
  unfold grV at C ⊢
  go_enter Tryd.func15, Tryd.ntmps15
  go_wp2_with fail
  refine C.out.mono ?_
  rintro e w' ⟨rfl, hB'⟩
  have HB' := Lib.hid (HB.out.trans (hB'.mono (by omega)))
  clear hB'
  go_wp2
  go_ret2
  exact ⟨rfl, HB'.out⟩
set_option maxHeartbeats 4000000 in
theorem order_good (An : Option Addr) (nn cn : Nat) (At : Option Addr) (nt ct : Nat) (G : Gr) (w : World) (hg : GrAt w At nt (intG G)) (hok : okG G) (hb : ∀ r ∈ intG G, r.length ≤ 9223372036854775806) (hnt : nt ≤ 1048576) (hr : rightN nn (intG G) = true) :
    Calls Tryd.prog 15 #[grV An nn cn At nt ct] w fun e w' =>
      ((orderN G).length < nt ∧ e = .returned (.tuple #[.slice none 0 0, .int .i64 8]) ∨
        (orderN G).length = nt ∧ ∃ A c, e = .returned (.tuple #[.slice A nt c, .int .i64 0]) ∧ w'.ownsRow w.heap.size 3 1 (.slice A nt c) nt (natCells (orderN G))) ∧ Below w.heap.size w w' := by
  obtain ⟨W, hW, hB, hz, c0, c1⟩ := grBox w An nn cn At nt ct 28
  have C := Lib.hid (right_any An nn cn At nt ct _ W (hg.below hB) hb (by omega))
  rw [hr] at C
  have HB := Lib.hid hB
  have HG := Lib.hid (hg.below hB)
  have HOK := Lib.hid hok
  have HL := Lib.hid hb
  have HN := Lib.hid (show G.length = nt by have := hg.1; unfold intG at this; simpa using this)
  have HLN := Lib.hid (show (orderN G).length ≤ nt by rw [← HN.out]; exact (orderN_good G).len)
  clear hB hg hb hr hok
  unfold grV at C ⊢
  go_enter Tryd.func15, Tryd.ntmps15
  go_wp2_with fail
  refine C.out.mono ?_
  rintro e w1 ⟨rfl, hB1⟩
  have c0' := (hB1.cell (p := ⟨w.heap.size, 0, none⟩) (by show w.heap.size < _; omega)).trans c0
  have c1' := (hB1.cell (p := ⟨w.heap.size, 1, none⟩) (by show w.heap.size < _; omega)).trans c1
  have C2 := Lib.hid (order_any An nn cn At nt ct G w1 (HG.out.below hB1) HOK.out HL.out hnt)
  have HB1 := Lib.hid (HB.out.trans (hB1.mono (by omega)))
  have hz1 := hB1.size
  clear hB1 c0 c1
  unfold grV at C2
  go_wp2_with fail
  refine C2.out.mono ?_
  rintro e w2 ⟨A, c, rfl, hown, hB2⟩
  have c1'' := (hB2.cell (p := ⟨w.heap.size, 1, none⟩) (by show w.heap.size < _; omega)).trans c1'
  have HO := Lib.hid (own_lowerG hown (show w.heap.size ≤ _ by omega))
  have HB2 := Lib.hid (HB1.out.trans (hB2.mono (by omega)))
  clear hown hB2 c0' c1'
  rcases Nat.lt_or_ge (orderN G).length nt with h | h
  · have hi : ((orderN G).length : Int) < (nt : Int) := by omega
    go_wp2
    go_ret2
    exact ⟨.inl ⟨h, rfl⟩, HB2.out⟩
  · have he : (orderN G).length = nt := by have := HLN.out; omega
    rw [he] at HO ⊢
    go_wp2
    go_ret2
    exact ⟨.inr ⟨he, A, c, rfl, HO.out⟩, HB2.out⟩
end Go.Proofs.YtignndcjblfocaaDoor
