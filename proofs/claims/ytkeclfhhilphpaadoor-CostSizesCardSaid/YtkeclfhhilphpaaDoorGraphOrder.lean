/- graph.order: the places that can be told, one by one. Conditions: at most 2^20 places. -/
import Derived.Test.YtkeclfhhilphpaaDoorGraphOpen
import Derived.Deep.LoopGhost
import Derived.WalkMore
namespace Go.Proofs.YtkeclfhhilphpaaDoor
open Go.RowKit Go.Proofs.YtkeclfhhilphpaaDoor.GraphPlain
theorem Tryd.infoInt : (Tryd.prog.info? 3).map (fun i => (i.zero, i.size, i.bytes)) = some (some (.int .i64 0), 1, 8) := by kernel_rfl
theorem Tryd.infoRow : (Tryd.prog.info? 63).map (fun i => (i.zero, i.size, i.bytes)) = some (some (.slice none 0 0), 1, 24) := by kernel_rfl
def natCells (l : List Nat) : List Value := l.map fun (x : Nat) => .int .i64 (x : Int)
theorem natCells_snoc (l : List Nat) (x : Nat) : natCells (l ++ [x]) = natCells l ++ [.int .i64 (x : Int)] := by simp [natCells]
theorem own_shapeG {w : World} {base size n : Nat} {e : TypeId} {v : Value} {xs : List Value} (h : w.ownsRow base e size v n xs) : ∃ A c, v = .slice A n c := by
  rcases h.2 with ⟨h1, h2⟩ | ⟨g, cap, _, h1, _⟩
  · subst h2; exact ⟨_, _, h1⟩
  · exact ⟨_, _, h1⟩
theorem own_lowerG {w : World} {base base' : Nat} {e : TypeId} {size : Nat} {v : Value} {n : Nat} {xs : List Value} (h : w.ownsRow base e size v n xs) (hb : base' ≤ base) : w.ownsRow base' e size v n xs := by
  refine ⟨h.1, ?_⟩
  rcases h.2 with h2 | ⟨g, cap, cur, hv, hg, r⟩
  · exact .inl h2
  · exact .inr ⟨g, cap, cur, hv, Nat.le_trans hb hg, r⟩
theorem oneCellG (w : World) (v : Value) (t : TypeId) : ∀ (i : Nat) (u : Value), [v][i]? = some u → (w.alloc (.cells #[v] t)).cell? ((⟨w.heap.size, 0, none⟩ : Addr).add i) = some u := by
  intro j u hj
  match j, hj with
  | 0, hj =>
    obtain rfl : v = u := by simpa using hj
    have h := heap_alloc_new w (.cells #[v] t)
    rw [addT, Lib.cell_of_heap h]; rfl
theorem free_no {G : Gr} {l : List Nat} {k : Nat} (h : ∀ j, j < k → free G l j = false) (hk : free G l k = false) : ∀ j, j < k + 1 → free G l j = false := fun j hj => by
  by_cases e : j = k
  · subst e; exact hk
  · exact h j (by omega)
theorem pick_first {G : Gr} {l : List Nat} {k : Nat} (h : ∀ j, j < k → free G l j = false) (hk : k < G.length) (hf : free G l k = true) : pick G l = some k := by
  unfold pick
  rw [List.find?_range_eq_some]
  exact ⟨hf, by simpa using hk, fun j hj => by rw [h j hj]; rfl⟩
theorem pick_last {G : Gr} {l : List Nat} (h : ∀ j, j < G.length → free G l j = false) : pick G l = none := by
  unfold pick
  rw [List.find?_eq_none]
  intro x hx
  rw [h x (List.mem_range.1 hx)]; decide
set_option maxRecDepth 100000 in
set_option maxHeartbeats 8000000 in
theorem order_any (An : Option Addr) (nn cn : Nat) (At : Option Addr) (nt ct : Nat) (G : Gr) (w : World) (hg : GrAt w At nt (intG G)) (hok : okG G) (hb : ∀ r ∈ intG G, r.length ≤ 9223372036854775806) (hnt : nt ≤ 1048576) :
    Calls Tryd.prog 35 #[grV An nn cn At nt ct] w fun e w' => ∃ A c, e = .returned (.slice A (orderN G).length c) ∧ w'.ownsRow w.heap.size 3 1 (.slice A (orderN G).length c) (orderN G).length (natCells (orderN G)) ∧ Below w.heap.size w w' := by
  obtain ⟨i0, hi0, hz0, hz1, hz2⟩ := info_parts Tryd.infoInt
  obtain ⟨W, hW, hB, hz, c0, c1⟩ := grBox w An nn cn At nt ct 65
  have GA := Lib.hid (hg.below hB)
  have HB := Lib.hid hB
  have HL := Lib.hid hb
  have HN := Lib.hid (show G.length = nt by have := hg.1; unfold intG at this; simpa using this)
  have HOK := Lib.hid hok
  clear hB hg hb hok
  unfold grV
  go_enter Tryd.func35, Tryd.ntmps35
  go_wp2; go_step3
  go_wp2_with (at_make; refine wpList_make_full _ rfl _ _ 63 rfl (w.heap.size + 1) 3 i0 (.int .i64 0) 1 Tryd.underlying63 hi0 hz0 hz1 .i64 .i64 _ _ nt rfl rfl rfl rfl ?m1 ?m2 ?m3 ?_)
  case m1 => rw [hz2]; omega
  case m2 => unfold maxLen; omega
  case m3 => omega
  intro w1 hown hgrow
  have hr0 : w1.ownsRow (w.heap.size + 1) 3 1 (.slice (some ⟨w.heap.size + 1, 0, none⟩) nt nt) nt (toldC nt []) := by
    rw [toldC_nil, ← toList_madeCells_one, show (#[Value.int .i64 0] : Array Value) = (Value.int .i64 0).cells from rfl]
    simpa [hz, Value.cells] using hown
  have hB1 : Below (w.heap.size + 1) W w1 := (Below.refl _ W).grown hgrow (by omega) (fun k h => by cases h)
  clear hown hgrow
  have q0 := Boxed.new w1 63 (.slice (some ⟨w.heap.size + 1, 0, none⟩) nt nt)
  have hr1 := hr0.kept (World.grownBy_alloc w1 (.cells #[.slice (some ⟨w.heap.size + 1, 0, none⟩) nt nt] 63) none) (.inr (by simp [Value.ownBlock]))
  have hB2 := hB1.alloc (by have := hB1.size; omega) (.cells #[.slice (some ⟨w.heap.size + 1, 0, none⟩) nt nt] 63)
  have hz1 := hr0.lt _ rfl
  clear hr0 hB1
  go_wp2; go_step3
  go_wp2_with fail
  have hz2' : w1.heap.size + 1 = (w1.alloc (.cells #[.slice (some ⟨w.heap.size + 1, 0, none⟩) nt nt] 63)).heap.size := by simp
  generalize (w1.alloc (.cells #[.slice (some ⟨w.heap.size + 1, 0, none⟩) nt nt] 63)) = w2 at *
  have hlt1 : w.heap.size + 1 < w1.heap.size := hz1.2
  clear hz1
  generalize w1.heap.size = tb at *
  go_loopg [3] nt (fun g v3 wr => ∃ l : List Nat, g + l.length = nt ∧ Hid (OrdAt G l) ∧ Hid (wr.ownsRow (tb + 1) 3 1 v3 l.length (natCells l)) ∧ Hid (wr.ownsRow (w.heap.size + 1) 3 1 (.slice (some ⟨w.heap.size + 1, 0, none⟩) nt nt) nt (toldC nt l)) ∧ Hid (Boxed wr tb 63 (.slice (some ⟨w.heap.size + 1, 0, none⟩) nt nt)) ∧ Hid (Below (w.heap.size + 1) W wr))
  case atStart => exact ⟨[], rfl, OrdAt.nil G, World.ownsRow_nil _ _ _ _, hr1, q0, hB2⟩
  case round =>
    obtain ⟨l, hgl, HO, HR, HT, HX, HW⟩ := hrel
    obtain ⟨go, hgo⟩ : ∃ go, go = gk := ⟨_, rfl⟩
    rw [← hgo] at hgl
    obtain ⟨A3, c3, rfl⟩ := own_shapeG HR.out
    have d0 := (HW.out.cell (p := ⟨w.heap.size, 1, none⟩) (by show w.heap.size < _; omega)).trans c1
    have x0 := HX.out.cell
    have hsz := HX.out.lt
    clear q0 hr1 hB2 c0 c1 hz2' w2
    go_wp2_with fail
    go_loopg [3, 16] nt (fun g v3 v16 wr' => ∃ k : Nat, g + k = nt ∧ v3 = .slice A3 l.length c3 ∧ v16 = .int .i64 k ∧ Hid (∀ j, j < k → free G l j = false) ∧ wr' = wr)
    case atStart => exact ⟨0, rfl, rfl, rfl, fun j hj => by omega, rfl⟩
    case round =>
      obtain ⟨k, hgk, rfl, rfl, HF, rfl⟩ := hrel
      by_cases hlt : k < nt
      · obtain ⟨a, B, r, c, ha, hx, hab, g0, gi⟩ := GA.out.2 k hlt
        subst ha
        have e0 := (HW.out.cell (p := a.add k) (by rw [addBlockT]; omega)).trans g0
        have b0 : (0 : Int) ≤ (k : Int) := by omega
        have b1 : (k : Int) < (nt : Int) := by omega
        have HI := Lib.hid (gi.below (by rw [hz]; exact HW.out))
        have HRL := HL.out r (memOf hx)
        obtain ⟨hr, hkG⟩ := intG_at hx
        have HRR := Lib.hid hr
        have OP := open_any k tb (w.heap.size + 1) nt (w.heap.size + 1) l wr x0 HT.out hlt
        clear hx g0 gi hr
        cases hk : l.contains k with
        | true =>
          rw [hk] at OP
          have HF' := Lib.hid (free_no HF.out (show free G l k = false by unfold free; rw [hk]; rfl))
          clear hk
          go_wp2_with fail
          refine OP.mono ?_
          rintro e w' ⟨rfl, rfl⟩
          go_wp2
          go_roundg (gk - 1)
          case measure => omega
          case rel => exact ⟨k + 1, by omega, rfl, by go_num, HF', rfl⟩
        | false =>
          rw [hk] at OP
          have CO := containsOpen_any B r.length c r tb (fun x => !l.contains x.toNat) wr HI.out HRL (fun x hx => by
            rw [HRR.out] at hx
            obtain ⟨j, hj, rfl⟩ := List.mem_map.1 hx
            exact open_any j tb (w.heap.size + 1) nt (w.heap.size + 1) l wr x0 HT.out (by rw [← HN.out]; exact HOK.out _ _ hj))
          rw [show r.any (fun x => !l.contains x.toNat) = !((row G k).all fun j => l.contains j) by rw [HRR.out]; exact anyOpen] at CO
          have f1 : wr.cell? ⟨w.heap.size + 1, k, none⟩ = some (.int .i64 0) := by
            have h1 := HT.out.cells rfl k _ (toldC_at hlt)
            rw [addT, hk] at h1
            simpa using h1
          have HFR : Hid (free G l k = (row G k).all fun j => l.contains j) := by show free G l k = _; unfold free; rw [hk]; rfl
          clear hk
          cases hall : (row G k).all fun j => l.contains j with
          | true =>
            rw [hall] at CO HFR
            have HP := Lib.hid (pick_first HF.out hkG HFR.out)
            have f0 := HT.out.frozenAt k
            clear hall HFR hkG
            go_wp2_with fail
            refine OP.mono ?_
            rintro e w' ⟨rfl, rfl⟩
            go_wp2_with fail
            refine CO.mono ?_
            rintro e w' ⟨rfl, rfl⟩
            have HR2 := ownsRow_setCell_other HR.out (a := ⟨w.heap.size + 1, k, none⟩) (fun e => by have := (HR.out.lt _ e).1; simp at this; omega) (.int .i64 1)
            have HT2 := (HT.out.stored k (.int .i64 1)).1
            rw [toldC_set] at HT2
            have HX2 : Boxed (w'.setCell ⟨w.heap.size + 1, k, none⟩ (.int .i64 1)) tb 63 (.slice (some ⟨w.heap.size + 1, 0, none⟩) nt nt) := HX.out.kept (HT.out.stored k (.int .i64 1)).2 (by simp; omega)
            have HW2 := HW.out.setCell (p := ⟨w.heap.size + 1, k, none⟩) (Nat.le_refl _) (.int .i64 1)
            go_wp2_with (at_builtin; refine wpList_append_own _ rfl _ _ 63 rfl (tb + 1) 3 i0 (.int .i64 0) 1 8 Tryd.underlying63 hi0 hz0 hz1 hz2 rfl (by decide) _ _ _ rfl (HR2.alloc _) ⟨_, 0, none⟩ 1 1 [.int .i64 k] rfl rfl ?c1 ?c2 ?c3 ?c4 ?c5 ?_)
            case c1 =>
              have := oneCellG (w'.setCell ⟨w.heap.size + 1, k, none⟩ (.int .i64 1)) (.int .i64 (k : Int)) 3
              simpa only [World.size_setCell] using this
            case c2 => intro u hu; simp at hu; subst hu; rfl
            case c3 => unfold maxLen; omega
            case c4 => omega
            case c5 => simp; omega
            intro v' w3 hown' hgrow _
            have HR3 := Lib.hid hown'
            have hg3 : ∀ g, (Value.slice A3 l.length c3).ownBlock = some g → tb + 1 ≤ g := fun g h => (HR2.lt g h).1
            have HT3 := Lib.hid ((HT2.kept (World.grownBy_alloc _ (.cells #[.int .i64 k] 3) none) (.inr (by simp [Value.ownBlock]))).kept hgrow (.inr (fun e => by have := hg3 (w.heap.size + 1) e.symm; omega)))
            have HX3 := Lib.hid ((HX2.alloc (.cells #[.int .i64 k] 3)).kept hgrow (fun e => by have := hg3 tb e.symm; omega))
            have HW3 := Lib.hid ((HW2.alloc (by simp; omega) (.cells #[.int .i64 k] 3)).grown hgrow (by simp; omega) (fun g h => by have := hg3 g h; omega))
            clear hown' hgrow HR2 HT2 HX2 HW2 hg3 f0 f1 d0 x0 e0
            have hll := (OrdAt.snoc HO.out HP.out).1.len
            rw [List.length_append, HN.out] at hll
            simp at hll
            go_wp2
            go_roundg (go - 1)
            case measure => omega
            case rel =>
              refine ⟨l ++ [k], by rw [List.length_append]; simp; omega, OrdAt.snoc HO.out HP.out, ?_, HT3, HX3, HW3⟩
              rw [natCells_snoc, List.length_append]; exact HR3
          | false =>
            rw [hall] at CO HFR
            have HF' := Lib.hid (free_no HF.out HFR.out)
            clear hall HFR hkG
            go_wp2_with fail
            refine OP.mono ?_
            rintro e w' ⟨rfl, rfl⟩
            go_wp2_with fail
            refine CO.mono ?_
            rintro e w' ⟨rfl, rfl⟩
            go_wp2
            go_roundg (gk - 1)
            case measure => omega
            case rel => exact ⟨k + 1, by omega, rfl, by go_num, HF', rfl⟩
      · obtain rfl : k = nt := by omega
        have HE : Hid (orderN G = l) := HO.out.done (pick_last (by rw [HN.out]; exact HF.out))
        go_wp2
        try rw [Exit.noGoto_ret]
        go_ret
        rw [HE.out]
        exact ⟨A3, c3, rfl, own_lowerG HR.out (by omega), (HB.out.trans (HW.out.mono (by omega)))⟩
end Go.Proofs.YtkeclfhhilphpaaDoor
