/- Merged texts: GraphLeads, GraphRLoop. -/
import Derived.Test.YtkeclfhhilphpaaDoorGraphRRight
import Derived.Test.YtkeclfhhilphpaaDoorGraphOrder
/- The reference's leads. Conditions: at most 2^20 places. -/
namespace Go.Proofs.YtkeclfhhilphpaaDoor
open Go.RowKit Go.Proofs.YtkeclfhhilphpaaDoor.GraphPlain
theorem Tryd.infoBoolG : (Tryd.prog.info? 4).map (fun i => (i.zero, i.size, i.bytes)) = some (some (.bool false), 1, 1) := by kernel_rfl
def boolCells (l : List Bool) : List Value := l.map Value.bool
theorem boolCells_set (l : List Bool) (k : Nat) (v : Bool) : (boolCells l).set k (.bool v) = boolCells (l.set k v) := by unfold boolCells; rw [List.map_set]
theorem boolCells_rep (n : Nat) : boolCells (List.replicate n false) = List.replicate n (.bool false) := by simp [boolCells]
theorem boolCells_at {l : List Bool} {k : Nat} (h : k < l.length) : (boolCells l)[k]? = some (.bool (mk l k)) := by
  unfold boolCells mk
  rw [List.getElem?_map, List.getD_eq_getElem?_getD, List.getElem?_eq_getElem h]; rfl
theorem own_boolG {w : World} {base : Nat} {e : TypeId} {T n c : Nat} {d : List Bool} (h : w.ownsRow base e 1 (.slice (some ⟨T, 0, none⟩) n c) n (boolCells d)) {k : Nat} (hk : k < d.length) : w.cell? ⟨T, k, none⟩ = some (.bool (mk d k)) := by
  have := h.cells rfl k _ (boolCells_at hk)
  rwa [addT] at this
/-- What the innermost loop does with one row. -/
def inI (G : Gr) (f : Nat) (t : List Bool) (i k : Nat) : List Bool := if i = f ∨ mk t i = true then markAll t ((row G i).take k) else t
theorem inI_zero (G : Gr) (f : Nat) (t : List Bool) (i : Nat) : inI G f t i 0 = t := by unfold inI; split <;> rfl
theorem inI_len (G : Gr) (f : Nat) (t : List Bool) (i k : Nat) : (inI G f t i k).length = t.length := by unfold inI; split; exact markAll_len _ _; rfl
theorem inI_end (G : Gr) (f : Nat) (t : List Bool) (i : Nat) : inI G f t i (row G i).length = stepI G f t i := by unfold inI stepI; rw [List.take_length]
theorem inI_yes {G : Gr} {f : Nat} {t : List Bool} {i k j : Nat} (h : i = f ∨ mk t i = true) (hj : (row G i)[k]? = some j) : (inI G f t i k).set j true = inI G f t i (k + 1) := by
  unfold inI
  rw [if_pos h, if_pos h, List.take_add_one, hj]
  unfold markAll
  rw [List.foldl_append]; rfl
theorem inI_no {G : Gr} {f : Nat} {t : List Bool} {i k : Nat} (h : ¬ (i = f ∨ mk t i = true)) : inI G f t i k = t := by unfold inI; rw [if_neg h]
theorem inI_mono {G : Gr} (hG : okG G) {f : Nat} {t : List Bool} (ht : t.length = G.length) {i k : Nat} (h : mk t i = true) : mk (inI G f t i k) i = true := by
  unfold inI
  split
  · rw [mk_markAll _ _ _ (fun j hj => by rw [ht]; exact hG _ _ (List.mem_of_mem_take hj)), h]; rfl
  · exact h
set_option maxHeartbeats 8000000 in
set_option maxRecDepth 100000 in
theorem leads_any (An : Option Addr) (nn cn : Nat) (At : Option Addr) (nt ct : Nat) (G : Gr) (f : Nat) (w : World) (hg : GrAt w At nt (intG G)) (hok : okG G) (hb : ∀ r ∈ intG G, r.length ≤ 9223372036854775806) (hnt : nt ≤ 1048576) (hf : f < nt) :
    Calls Tryd.prog 23 #[grV An nn cn At nt ct, .int .i64 f] w fun e w' => ∃ A c, e = .returned (.slice (some ⟨A, 0, none⟩) nt c) ∧ w'.ownsRow w.heap.size 4 1 (.slice (some ⟨A, 0, none⟩) nt c) nt (boolCells (leadsN G f)) ∧ Below w.heap.size w w' := by
  obtain ⟨i0, hi0, hz0, hz1, hz2⟩ := info_parts Tryd.infoBoolG
  obtain ⟨W, hW, hB, hz, c0, c1⟩ := grBox w An nn cn At nt ct 49
  have GA := Lib.hid (hg.below hB)
  have HB := Lib.hid hB
  have HL := Lib.hid hb
  have HN := Lib.hid (show G.length = nt by have := hg.1; unfold intG at this; simpa using this)
  have HOK := Lib.hid hok
  clear hB hg hb hok
  unfold grV
  go_enter Tryd.func23, Tryd.ntmps23
  go_wp2_with (at_make; refine wpList_make_full _ rfl _ _ 60 rfl (w.heap.size + 1) 4 i0 (.bool false) 1 Tryd.underlying60 hi0 hz0 hz1 .i64 .i64 _ _ nt rfl rfl rfl rfl ?m1 ?m2 ?m3 ?_)
  case m1 => rw [hz2]; omega
  case m2 => unfold maxLen; omega
  case m3 => omega
  intro w1 hown hgrow
  have HR0 : Hid (w1.ownsRow (w.heap.size + 1) 4 1 (.slice (some ⟨w.heap.size + 1, 0, none⟩) nt nt) nt (boolCells (roundsN G f 0))) := by
    show w1.ownsRow _ _ _ _ _ _
    rw [show roundsN G f 0 = List.replicate G.length false from rfl, HN.out, boolCells_rep, ← toList_madeCells_one]
    simpa [hz, Value.cells] using hown
  have HB1 := Lib.hid ((Below.refl (w.heap.size + 1) W).grown hgrow (by omega) (fun k h => by cases h))
  clear hown hgrow
  go_wp2_with fail
  go_loopg [6] (nt + 1) (fun g v wr => ∃ m : Nat, g + m = nt + 1 ∧ v = .int .i64 m ∧ Hid (wr.ownsRow (w.heap.size + 1) 4 1 (.slice (some ⟨w.heap.size + 1, 0, none⟩) nt nt) nt (boolCells (roundsN G f m))) ∧ Hid (Below (w.heap.size + 1) W wr))
  case atStart => exact ⟨0, rfl, rfl, HR0, HB1⟩
  case round =>
    obtain ⟨m, hgm, rfl, HR, HW⟩ := hrel
    obtain ⟨go, hgo⟩ : ∃ go, go = gk := ⟨_, rfl⟩
    rw [← hgo] at hgm
    by_cases hlm : m ≤ nt
    · have b0 : (0 : Int) ≤ (m : Int) := by omega
      have b1 : (m : Int) ≤ (nt : Int) := by omega
      have e1 := (HW.out.cell (p := ⟨w.heap.size, 1, none⟩) (by show w.heap.size < _; omega)).trans c1
      go_wp2_with fail
      go_loopg [7] nt (fun g v wr' => ∃ i : Nat, g + i = nt ∧ v = .int .i64 i ∧ Hid (wr'.ownsRow (w.heap.size + 1) 4 1 (.slice (some ⟨w.heap.size + 1, 0, none⟩) nt nt) nt (boolCells (passTo G f (roundsN G f m) i))) ∧ Hid (Below (w.heap.size + 1) W wr'))
      case atStart => exact ⟨0, rfl, rfl, HR, HW⟩
      case round =>
        clear e1
        obtain ⟨i, hgi, rfl, HR1, HW1⟩ := hrel
        obtain ⟨gi, hgi'⟩ : ∃ gi, gi = gk := ⟨_, rfl⟩
        rw [← hgi'] at hgi
        have e1 := (HW1.out.cell (p := ⟨w.heap.size, 1, none⟩) (by show w.heap.size < _; omega)).trans c1
        by_cases hli : i < nt
        · obtain ⟨a, B, r, c, ha, hx, hab, g0, gin⟩ := GA.out.2 i hli
          subst ha
          have e0 := (HW1.out.cell (p := a.add i) (by rw [addBlockT]; omega)).trans g0
          have hrr := (intG_at hx).1
          have hrl : r.length = (row G i).length := by rw [hrr, List.length_map]
          have HRB := HL.out r (memOf hx)
          have HRI := Lib.hid (show IntsAt W B r.length ((row G i).map Int.ofNat) by rw [← hrr]; exact gin)
          rw [hrl] at e0 HRI HRB g0
          have d0 : (0 : Int) ≤ (i : Int) := by omega
          have d1 : (i : Int) < (nt : Int) := by omega
          have HTL : Hid ((passTo G f (roundsN G f m) i).length = nt) := by show _ = _; rw [passTo_len, roundsN_len, HN.out]
          have HST : Hid (passTo G f (roundsN G f m) (i + 1) = stepI G f (passTo G f (roundsN G f m) i) i) := rfl
          generalize passTo G f (roundsN G f m) i = t at *
          have HR1' := Lib.hid (show wr.ownsRow (w.heap.size + 1) 4 1 (.slice (some ⟨w.heap.size + 1, 0, none⟩) nt nt) nt (boolCells (inI G f t i 0)) by rw [inI_zero]; exact HR1.out)
          clear hx gin hrr
          go_wp2_with fail
          go_loopg [8] (row G i).length (fun g v wr' => ∃ k : Nat, g + k = (row G i).length ∧ v = .int .i64 k ∧ Hid (wr'.ownsRow (w.heap.size + 1) 4 1 (.slice (some ⟨w.heap.size + 1, 0, none⟩) nt nt) nt (boolCells (inI G f t i k))) ∧ Hid (Below (w.heap.size + 1) W wr'))
          case atStart => exact ⟨0, rfl, rfl, HR1', HW1⟩
          case round =>
            clear e1 e0
            obtain ⟨k, hgk, rfl, HR2, HW2⟩ := hrel
            have e1 := (HW2.out.cell (p := ⟨w.heap.size, 1, none⟩) (by show w.heap.size < _; omega)).trans c1
            have e0 := (HW2.out.cell (p := a.add i) (by rw [addBlockT]; omega)).trans g0
            by_cases hlk : k < (row G i).length
            · have k0 : (0 : Int) ≤ (k : Int) := by omega
              have k1 : (k : Int) < ((row G i).length : Int) := by omega
              obtain ⟨bB, k', hB', hk, hkb, k0'⟩ := HRI.out.2 k hlk
              subst hB'
              rw [List.getElem?_map, List.getElem?_eq_getElem hlk] at hk
              obtain ⟨q, hq⟩ : ∃ q, (row G i)[k] = q := ⟨_, rfl⟩
              rw [hq] at hk
              obtain rfl : (q : Int) = k' := by simpa using hk
              have hq1 : (row G i)[k]? = some q := by rw [List.getElem?_eq_getElem hlk, hq]
              have hqN : q < nt := by rw [← HN.out]; exact HOK.out _ _ (List.mem_of_getElem? hq1)
              have e2 := (HW2.out.cell (p := bB.add k) (by rw [addBlockT]; omega)).trans k0'
              have f0 := own_boolG HR2.out (k := q) (by rw [inI_len, HTL.out]; exact hqN)
              have f1 := HR2.out.frozenAt q
              have fi := own_boolG HR2.out (k := i) (by rw [inI_len, HTL.out]; exact hli)
              have q0 : (0 : Int) ≤ (q : Int) := by omega
              have q1 : (q : Int) < (nt : Int) := by omega
              have hmono := fun h => inI_mono HOK.out (G := G) (f := f) (t := t) (i := i) (k := k) (by rw [HTL.out, HN.out]) h
              clear hk hq k0'
              by_cases hif : i = f
              · subst hif
                have hcond : i = i ∨ mk t i = true := .inl rfl
                clear hmono
                have HS := HR2.out.stored q (.bool true)
                rw [boolCells_set, inI_yes hcond hq1] at HS
                have HS1 := Lib.hid HS.1
                have HS2 := Lib.hid (HW2.out.setCell (p := ⟨w.heap.size + 1, q, none⟩) (Nat.le_refl _) (.bool true))
                clear HS
                go_wp2
                go_roundg (gk - 1)
                case measure => omega
                case rel => exact ⟨k + 1, by omega, by go_num, HS1, HS2⟩
              · have hif' : ¬ (i : Int) = (f : Int) := by omega
                cases hmi : mk t i with
                | true =>
                  have hcond : i = f ∨ mk t i = true := .inr hmi
                  rw [hmono hmi] at fi
                  clear hmono hmi
                  have HS := HR2.out.stored q (.bool true)
                  rw [boolCells_set, inI_yes hcond hq1] at HS
                  have HS1 := Lib.hid HS.1
                  have HS2 := Lib.hid (HW2.out.setCell (p := ⟨w.heap.size + 1, q, none⟩) (Nat.le_refl _) (.bool true))
                  clear HS
                  go_wp2
                  go_roundg (gk - 1)
                  case measure => omega
                  case rel => exact ⟨k + 1, by omega, by go_num, HS1, HS2⟩
                | false =>
                  have hcond : ¬ (i = f ∨ mk t i = true) := by rw [hmi]; rintro (h | h); exact hif h; cases h
                  rw [inI_no hcond, hmi] at fi
                  have HS1 := Lib.hid (show wr.ownsRow (w.heap.size + 1) 4 1 (.slice (some ⟨w.heap.size + 1, 0, none⟩) nt nt) nt (boolCells (inI G f t i (k + 1))) by rw [inI_no hcond, ← inI_no (k := k) hcond]; exact HR2.out)
                  clear hmono hmi hcond hif
                  go_wp2
                  go_roundg (gk - 1)
                  case measure => omega
                  case rel => exact ⟨k + 1, by omega, by go_num, HS1, HW2⟩
            · obtain rfl : k = (row G i).length := by omega
              have HR3 := Lib.hid (show wr.ownsRow (w.heap.size + 1) 4 1 (.slice (some ⟨w.heap.size + 1, 0, none⟩) nt nt) nt (boolCells (passTo G f (roundsN G f m) (i + 1))) by rw [HST.out, ← inI_end]; exact HR2.out)
              go_wp2
              go_roundg (gi - 1)
              case measure => omega
              case rel => exact ⟨i + 1, by omega, by go_num, HR3, HW2⟩
        · obtain rfl : i = nt := by omega
          have HR3 := Lib.hid (show wr.ownsRow (w.heap.size + 1) 4 1 (.slice (some ⟨w.heap.size + 1, 0, none⟩) i i) i (boolCells (roundsN G f (m + 1))) by rw [show roundsN G f (m + 1) = passTo G f (roundsN G f m) i by rw [← HN.out]; rfl]; exact HR1.out)
          go_wp2
          go_roundg (go - 1)
          case measure => omega
          case rel => exact ⟨m + 1, by omega, by go_num, HR3, HW1⟩
    · obtain rfl : m = nt + 1 := by omega
      have e1 := (HW.out.cell (p := ⟨w.heap.size, 1, none⟩) (by show w.heap.size < _; omega)).trans c1
      have HLN : Hid (leadsN G f = roundsN G f (nt + 1)) := by show leadsN G f = _; unfold leadsN; rw [HN.out]
      have b1 : ¬ ((nt + 1 : Nat) : Int) ≤ (nt : Int) := by omega
      go_wp2
      go_ret
      rw [HLN.out]
      exact ⟨_, _, rfl, own_lowerG HR.out (by omega), HB.out.trans (HW.out.mono (by omega))⟩
end Go.Proofs.YtkeclfhhilphpaaDoor
/- The reference's Loop. Conditions: at most 2^20 places. -/
namespace Go.Proofs.YtkeclfhhilphpaaDoor
open Go.RowKit Go.Proofs.YtkeclfhhilphpaaDoor.GraphPlain
/-- The least place that leads back; -1: there is none. -/
def loopN (G : Gr) : Int := match (List.range G.length).find? fun i => mk (leadsN G i) i with
  | some i => i
  | none => -1
theorem loopN_yes {G : Gr} {k : Nat} (h : ∀ j, j < k → mk (leadsN G j) j = false) (hk : k < G.length) (hp : mk (leadsN G k) k = true) : loopN G = k := by
  unfold loopN
  have : (List.range G.length).find? (fun i => mk (leadsN G i) i) = some k := by
    rw [List.find?_range_eq_some]
    exact ⟨hp, by simpa using hk, fun j hj => by rw [h j hj]; rfl⟩
  rw [this]
theorem loopN_no {G : Gr} (h : ∀ j, j < G.length → mk (leadsN G j) j = false) : loopN G = -1 := by
  unfold loopN
  have : (List.range G.length).find? (fun i => mk (leadsN G i) i) = none := by
    rw [List.find?_eq_none]
    intro x hx
    rw [h x (List.mem_range.1 hx)]; decide
  rw [this]
theorem ltNext {p : Nat → Bool} {k : Nat} (h : ∀ j, j < k → p j = false) (hk : p k = false) : ∀ j, j < k + 1 → p j = false := fun j hj => by
  by_cases e : j = k
  · subst e; exact hk
  · exact h j (by omega)
set_option maxHeartbeats 8000000 in
set_option maxRecDepth 100000 in
theorem rloop_any (An : Option Addr) (nn cn : Nat) (At : Option Addr) (nt ct : Nat) (G : Gr) (w : World) (hg : GrAt w At nt (intG G)) (hok : okG G) (hb : ∀ r ∈ intG G, r.length ≤ 9223372036854775806) (hnt : nt ≤ 1048576) :
    Calls Tryd.prog 14 #[grV An nn cn At nt ct] w fun e w' => e = .returned (.int .i64 (loopN G)) ∧ Below w.heap.size w w' := by
  obtain ⟨W, hW, hB, hz, c0, c1⟩ := grBox w An nn cn At nt ct 49
  have GA := Lib.hid (hg.below hB)
  have HB := Lib.hid hB
  have HL := Lib.hid hb
  have HN := Lib.hid (show G.length = nt by have := hg.1; unfold intG at this; simpa using this)
  have HOK := Lib.hid hok
  clear hB hg hb hok
  unfold grV
  go_enter Tryd.func14, Tryd.ntmps14
  go_wp2
  go_loopg [3] nt (fun g v wr => ∃ k : Nat, g + k = nt ∧ v = .int .i64 k ∧ Hid (∀ j, j < k → mk (leadsN G j) j = false) ∧ Hid (Below W.heap.size W wr))
  case atStart => exact ⟨0, rfl, rfl, fun j hj => by omega, Below.refl _ _⟩
  case round =>
    obtain ⟨k, hgk, rfl, HJ, HW⟩ := hrel
    have e0 := (HW.out.cell (p := ⟨w.heap.size, 0, none⟩) (by show w.heap.size < _; omega)).trans c0
    have e1 := (HW.out.cell (p := ⟨w.heap.size, 1, none⟩) (by show w.heap.size < _; omega)).trans c1
    by_cases hlt : k < nt
    · have b0 : (0 : Int) ≤ (k : Int) := by omega
      have b1 : (k : Int) < (nt : Int) := by omega
      have C := Lib.hid (leads_any An nn cn At nt ct G k wr (GA.out.below HW.out) HOK.out HL.out hnt hlt)
      unfold grV at C
      go_wp2_with fail
      refine C.out.mono ?_
      rintro e w2 ⟨A, c, rfl, hown, hB2⟩
      have f0 := own_boolG hown (k := k) (by unfold leadsN; rw [roundsN_len, HN.out]; exact hlt)
      have HW2 := Lib.hid (HW.out.trans (hB2.mono HW.out.size))
      clear hown hB2 C e0 e1
      cases hp : mk (leadsN G k) k with
      | true =>
        rw [hp] at f0
        have HE := Lib.hid (loopN_yes HJ.out (by rw [HN.out]; exact hlt) hp)
        clear hp
        go_wp2
        go_ret
        exact ⟨by rw [HE.out]; rfl, HB.out.trans (HW2.out.mono (by omega))⟩
      | false =>
        rw [hp] at f0
        have HJ2 := Lib.hid (ltNext (p := fun j => mk (leadsN G j) j) HJ.out hp)
        clear hp
        go_wp2
        go_roundg (gk - 1)
        case measure => omega
        case rel => exact ⟨k + 1, by omega, by go_num, HJ2, HW2⟩
    · obtain rfl : k = nt := by omega
      have HE := Lib.hid (loopN_no (by rw [HN.out]; exact HJ.out))
      go_wp2
      go_ret
      exact ⟨by rw [HE.out]; rfl, HB.out.trans (HW.out.mono (by omega))⟩
end Go.Proofs.YtkeclfhhilphpaaDoor
