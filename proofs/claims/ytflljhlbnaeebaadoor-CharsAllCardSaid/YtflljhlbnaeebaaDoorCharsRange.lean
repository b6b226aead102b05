/- The contract of chars.Ranges: a new row that holds the runs of a class. Conditions: the three tables hold what the text gives them; fewer than 2^20 numbers. -/
import Derived.Test.YtflljhlbnaeebaaDoorCharsTells
import Derived.Test.YtflljhlbnaeebaaDoorCharsRuns
import Derived.OwnWalk
namespace Go.Proofs.YtflljhlbnaeebaaDoor
open Go.RowKit Go.Shelf Go.Proofs.YtflljhlbnaeebaaDoor.CharsPlain Go.Proofs.YtflljhlbnaeebaaDoor.CharsRuns
theorem eql_func_nil (g : FuncId) (W : World) : (binOp .eql 26 (.func (.func g) #[] #[]) .nilFunc).run Tryd.prog W = .ok (.bool false) W := by kernel_rfl
theorem eql_nil_nil (W : World) : (binOp .eql 26 .nilFunc .nilFunc).run Tryd.prog W = .ok (.bool true) W := by kernel_rfl
theorem ranges_nil (lo hi : Int) (w : World)  : Calls Tryd.prog 35 #[.nilFunc, .int .i64 lo, .int .i64 hi] w fun e w' => e = .returned (.slice none 0 0) ∧ w = w' := by
  have e0 := eql_nil_nil
  go_enter Tryd.func35, Tryd.ntmps35
  go_wp2
  go_ret
  exact ⟨rfl, rfl⟩
theorem ranges_less (g : FuncId) (lo hi : Int) (w : World) (h : hi < lo) : Calls Tryd.prog 35 #[.func (.func g) #[] #[], .int .i64 lo, .int .i64 hi] w fun e w' => e = .returned (.slice none 0 0) ∧ w = w' := by
  have ef := fun g => eql_func_nil g
  go_enter Tryd.func35, Tryd.ntmps35
  go_wp2
  go_ret
  exact ⟨rfl, rfl⟩
theorem ranges_big (g : FuncId) (w : World) : Calls Tryd.prog 35 #[.func (.func g) #[] #[], .int .i64 0, .int .i64 1048576] w fun e w' => e = .returned (.slice none 0 0) ∧ w = w' := by
  have ef := fun g => eql_func_nil g
  go_enter Tryd.func35, Tryd.ntmps35
  go_wp2
  go_ret
  exact ⟨rfl, rfl⟩
/-- The cells of a row of runs. -/
def runCells (rs : List (Int × Int)) : List Value := (flat rs).map (Value.int .i64)
theorem Tryd.infoPair : (Tryd.prog.info? 53).map (fun i => (i.zero, i.size, i.bytes)) = some (some (.agg #[.int .i64 0, .int .i64 0]), 2, 16) := by kernel_rfl
theorem ownsRow_below {w w' : World} {base : Nat} {e : TypeId} {size : Nat} {v : Value} {n : Nat} {xs : List Value} (h : w.ownsRow base e size v n xs) (hb : Below w.heap.size w w') : w'.ownsRow base e size v n xs := by
  refine ⟨h.1, ?_⟩
  rcases h.2 with h2 | ⟨g, cap, cur, hv, hg, hh, r⟩
  · exact .inl h2
  · refine .inr ⟨g, cap, cur, hv, hg, ?_, r⟩
    rcases Nat.lt_or_ge g w.heap.size with hlt | hge
    · rw [hb.block g hlt]; exact hh
    · rw [Array.getElem?_eq_none hge] at hh; cases hh
theorem ownsRow_slice {w : World} {base size n : Nat} {e : TypeId} {v : Value} {xs : List Value} (h : w.ownsRow base e size v n xs) (hn : 0 < n) : ∃ g cap, v = .slice (some ⟨g, 0, none⟩) n cap := by
  rcases h.2 with ⟨_, h2⟩ | ⟨g, cap, cur, hv, _⟩
  · omega
  · exact ⟨g, cap, hv⟩
theorem wrap_diff (lo : Int) (n : Nat) (hn : n < 1048576) : IntKind.u64.wrap (IntKind.u64.wrap (lo + n) - IntKind.u64.wrap lo) < 1048576 := by
  simp [IntKind.wrap, IntKind.bits, IntKind.signed]; omega
set_option maxHeartbeats 1000000 in
theorem ranges_any (k : Nat) (lo : Int) (n : Nat) (w : World) (hk : k < 5) (ht : Tabs w) (hn : n < 1048576) (h1 : -9223372036854775808 ≤ lo) (h2 : lo + n ≤ 9223372036854775807) :
    Calls Tryd.prog 35 #[.func (.func (askF k)) #[] #[], .int .i64 lo, .int .i64 (lo + n)] w fun e w' =>
      ∃ v rs op, e = .returned v ∧ Inv (isK k) lo (n + 1) rs op ∧ rs.length ≤ n + 1 ∧ w'.ownsRow w.heap.size 53 2 v rs.length (runCells rs) ∧ Below w.heap.size w w' := by
  obtain ⟨i0, hi0, hz0, hz1, hz2⟩ := info_parts Tryd.infoPair
  have HT := Lib.hid ht
  have eg := enters_ask k hk
  have ef := eql_func_nil (askF k)
  have t0 : decide (lo + n < lo) = false := by simp; omega
  have t1 := wrap_diff lo n hn
  clear ht
  go_enter Tryd.func35, Tryd.ntmps35
  go_wp2
  go_loopw [7, 8, 9] (fun v op i wr => ∃ (j : Nat) (rs : List (Int × Int)) (b : Bool), j ≤ n + 1 ∧ rs.length ≤ j ∧ i = .int .i64 j ∧ op = .bool b ∧ Hid (Inv (isK k) lo j rs b) ∧ Hid (wr.ownsRow w.heap.size 53 2 v rs.length (runCells rs)) ∧ Hid (Below w.heap.size w wr)) (fun _ _ i _ => n + 1 - (intOf i).toNat)
  case atStart => exact ⟨0, [], false, by omega, by simp, rfl, rfl, Inv.nil _ _, World.ownsRow_nil _ _ _ _, Below.refl _ _⟩
  case round =>
    obtain ⟨j, rs, b, hj, hlen, rfl, rfl, HI, HO, HB⟩ := hrel
    by_cases hlt : j ≤ n
    · have HTr := Lib.hid (HT.out.below HB.out HT.out.size)
      have a1 : lo + j ≤ 9223372036854775807 := by omega
      have a2 : -9223372036854775808 ≤ lo + j := by omega
      cases hp : isK k (lo + j) with
      | false =>
        have HP := Lib.hid hp
        clear hp
        go_wp2_with fail
        refine (asked_any k _ _ HTr.out hk).mono ?_
        rintro e w1 ⟨rfl, hb1⟩
        rw [HP.out]
        have HO1 := Lib.hid (ownsRow_below HO.out hb1)
        have HB1 := Lib.hid (HB.out.trans (hb1.mono HB.out.size))
        clear HO HB hb1
        go_wp2
        go_roundw
        case rel => exact ⟨j + 1, rs, false, by omega, by omega, by go_num, rfl, HI.out.no HP.out, HO1, HB1⟩
        case measure => simp [intOf]; omega
      | true =>
        have HP := Lib.hid hp
        clear hp
        cases b with
        | false =>
          go_wp2_with fail
          refine (asked_any k _ _ HTr.out hk).mono ?_
          rintro e w1 ⟨rfl, hb1⟩
          rw [HP.out]
          have HO1 := ownsRow_below HO.out hb1
          have HB1 := HB.out.trans (hb1.mono HB.out.size)
          have hsz := HB1.size
          clear HO HB hb1
          go_wp2_with (at_builtin; refine wpList_append_own _ rfl (.tmp 45) (.tmp 53) 51 rfl w.heap.size 53 i0 (.agg #[.int .i64 0, .int .i64 0]) 2 16 Tryd.underlying51 hi0 hz0 hz1 hz2 rfl (by decide) _ _ _ rfl (HO1.alloc _) ⟨w1.heap.size, 0, none⟩ 1 1 [.int .i64 (lo + j), .int .i64 (lo + j)] rfl rfl ?c1 ?c2 ?c3 ?c4 ?c5 ?_)
          case c1 => exact cell_two_new _ _ _ _
          case c2 => intro u hu; simp at hu; subst hu; rfl
          case c3 => unfold maxLen; omega
          case c4 => omega
          case c5 => simp; omega
          intro v' w2 hown' hgrow _
          have HO2 := Lib.hid hown'
          have HB2 := Lib.hid ((HB1.alloc hsz _).grown hgrow (by simp; omega) (fun g hg => (HO1.lt g hg).1))
          clear hown' hgrow HO1 HB1
          go_wp2
          go_roundw
          case rel =>
            refine ⟨j + 1, rs ++ [(lo + j, lo + j)], true, by omega, by simp; omega, by go_num, rfl, HI.out.new HP.out, ?_, HB2⟩
            show World.ownsRow _ _ _ _ _ _ _
            have e : runCells (rs ++ [(lo + (j : Int), lo + (j : Int))]) = runCells rs ++ [.int .i64 (lo + j), .int .i64 (lo + j)] := by
              unfold runCells; rw [flat_append, List.map_append]; rfl
            rw [e, List.length_append]
            exact HO2.out
          case measure => simp [intOf]; omega
        | true =>
          obtain ⟨init, a, rfl⟩ := HI.out.goes rfl
          obtain ⟨g, cap, hv⟩ := ownsRow_slice HO.out (by simp)
          obtain rfl : u7 = .slice (some ⟨g, 0, none⟩) (init.length + 1) cap := by rw [hv]; simp
          clear hv
          go_wp2_with fail
          refine (asked_any k _ _ HTr.out hk).mono ?_
          rintro e w1 ⟨rfl, hb1⟩
          rw [HP.out]
          have HO1 := ownsRow_below HO.out hb1
          have HB1 := HB.out.trans (hb1.mono HB.out.size)
          have hsz := HB1.size
          clear HO HB hb1
          simp only [List.length_append, List.length_cons, List.length_nil, Nat.zero_add] at HO1 hlen
          have c1 : w1.cell? ⟨g, init.length * 2 + 1, none⟩ = some (.int .i64 (lo + j - 1)) := by
            rw [HO1.cellAt _ (by omega)]
            unfold runCells
            rw [List.getElem?_map, (flat_at _ init.length (a, lo + (j : Int) - 1) (by simp)).2]; rfl
          have c2 := HO1.frozenAt (init.length * 2 + 1)
          have hg := (HO1.lt g rfl)
          go_wp2_with fail
          go_roundw
          case rel =>
            refine ⟨j + 1, init ++ [(a, lo + j)], true, by omega, by simp; omega, by go_num, rfl, HI.out.on HP.out, ?_, HB1.setCell (p := ⟨g, init.length * 2 + 1, none⟩) hg.1 _⟩
            show World.ownsRow _ _ _ _ _ _ _
            have h := (HO1.stored (init.length * 2 + 1) (.int .i64 (lo + j))).1
            have e : runCells (init ++ [(a, lo + (j : Int))]) = (runCells (init ++ [(a, lo + (j : Int) - 1)])).set (init.length * 2 + 1) (.int .i64 (lo + j)) := by
              unfold runCells; rw [← List.map_set, flat_set]
            rw [e, List.length_append]
            exact h
          case measure => simp [intOf]; omega
    · obtain rfl : j = n + 1 := by omega
      go_wp2
      go_ret
      exact ⟨_, rs, b, rfl, HI.out, hlen, HO.out, HB.out⟩
end Go.Proofs.YtflljhlbnaeebaaDoor
