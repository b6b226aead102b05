/- narthexlaw17.live and Fill: the table of any declarations. Conditions: none of them too great; cref.known as the text lays it. Printed by gen-dtfill.py. -/
import Derived.Test.YtapjmfgpdkghlaaDoorDtLawQ
namespace Go.Proofs.YtapjmfgpdkghlaaDoor
open Go.RowKit Go.Maps
set_option linter.unusedVariables false
set_option linter.unusedSimpArgs false
theorem Tm.foot_ge {w : World} {base tb : Nat} {T : Tm} (h : TabAt w base tb T) {k : Nat} (hk : T.foot k) : base ≤ k := by
  obtain ⟨R, hR, hf⟩ := hk
  unfold Tm.rows at hR
  simp only [List.mem_cons] at hR
  rcases hR with rfl | rfl | rfl | rfl | hR
  · exact (h.gens.lt hf).2
  · exact (h.pars.lt hf).2
  · exact (h.nots.lt hf).2
  · exact (h.els.lt hf).2
  · obtain ⟨y, hy, rfl⟩ := List.mem_map.1 hR
    exact ((h.subs y hy).lt hf).2
theorem TabKept.belowB {w w' : World} {base tb : Nat} {T T' : Tm} (h : TabKept w w' base tb T T') (ht : TabAt w base tb T) (hb : base ≤ w.heap.size) : Below base w w' := h.keep.below hb (fun k hk => Tm.foot_ge ht hk)
/-- One declaration, given over, is added. -/
theorem add_one {base tb : Nat} {T : Tm} {d : Dc} {w0 w : World} {A : Option Addr} {c : Nat} {k : Nat} (h : TabAt w base tb T) (hb0 : base = w0.heap.size) (hB : Below base w0 w) (hdf : DfsAt w0 d.A d.ds.length d.ds) (hok : OkDc d.pl) (hK : KnownAt w0) (hbn : Bnd T.st k) (hk : k ≤ 16)
    (ho : w.ownsRow base 82 5 (.slice A d.ds.length c) d.ds.length (dfCells d.ds)) (hoff : Off T.foot A) :
    Calls Tryd.prog 26 #[.pointer (some ⟨tb, 0, none⟩), ({ d with A := A, c := c } : Dc).v] w (TabTold base tb T (tAdd T.st d.pl) (.int .i64 (tOk d.pl)) w) := by
  have hw : ∀ x ∈ d.ds, TsAt w0 x.A x.p.ws.length x.p.ws := fun x hx => by
    obtain ⟨j, hj⟩ := List.getElem?_of_mem hx
    obtain ⟨a', x', _, hx', _, hw'⟩ := hdf.2 j (List.getElem?_eq_some_iff.1 hj).1
    rw [hj] at hx'
    cases hx'
    exact hw'
  have hB0 : Below w0.heap.size w0 w := by rw [← hb0]; exact hB
  have hdl : d.ds.length ≤ 12 := by have := hok.1; unfold Dc.pl at this; simpa using this
  have hod : ∀ x ∈ d.ds, OkDf x.p := fun x hx => hok.2.2.2 x.p (List.mem_map.2 ⟨x, hx, rfl⟩)
  have hmax : (1200 : Nat) ≤ maxLen := by unfold maxLen; omega
  have hT : ∀ x ∈ T.els, x.ds.length ≤ 192 := fun x hx => by
    have h1 := (hbn.d (x.na, x.ds.map Df.p) (List.mem_map.2 ⟨x, hx, rfl⟩)).1
    rw [List.length_map] at h1
    omega
  have h1 := hbn.g
  have h2 := hbn.p
  have h3 := hbn.n
  have h4 := hbn.e
  have h5 : T.st.els.length = T.els.length := by unfold Tm.st; rw [List.length_map]
  have hna : d.na.size ≤ 300 := hok.2.1
  have hen : d.en.na.size ≤ 300 := hok.2.2.1
  exact add_any base tb T { d with A := A, c := c } w h (by rw [hb0]; exact hB0.size) (hK.later hB0) (DfsAt.of_own ho (fun x hx => (hw x hx).below hB0)) hoff
    (fun x hx hpos a ha hf => by
      obtain ⟨a2, s, e1, _, hlt, _⟩ := (hw x hx).2 0 hpos
      rw [ha] at e1
      cases e1
      have := Tm.foot_ge h hf
      omega)
    (show d.en.na.size ≤ maxLen by omega) (show d.na.size ≤ maxLen by omega)
    (fun x hx => ⟨by have := (hod x hx).1; omega, by have := (hod x hx).2; omega⟩)
    ⟨show T.st.gens.length ≤ _ by omega, show T.st.pars.length ≤ _ by omega, show T.st.nots.length ≤ _ by omega, by omega⟩
    (fun x hx => by have := hT x hx; show x.ds.length + d.ds.length ≤ _; omega) (show d.ds.length ≤ _ by omega)
theorem off_own {w w' : World} {base tb b2 : Nat} {T : Tm} {A : Option Addr} {e : TypeId} {sz n c : Nat} {xs : List Value} (h : TabAt w base tb T) (ho : w'.ownsRow b2 e sz (.slice A n c) n xs) (hb : w.heap.size ≤ b2) : Off T.foot A := fun a ha hf => by
  subst ha
  have h1 := (ho.lt a.block rfl).1
  have h2 := Tm.foot_lt h hf
  omega
def FillTold (l : List Dc) (w : World) (e : Ending) (w' : World) : Prop := ∃ tb T, e = .returned (.tuple #[.pointer (some ⟨tb, 0, none⟩), .bool true]) ∧ TabAt w' w.heap.size tb T ∧ T.st = tabR (l.map Dc.pl) ∧ Below w.heap.size w w'
set_option maxRecDepth 100000 in
set_option maxHeartbeats 8000000 in
theorem fill_any (A : Option Addr) (n c : Nat) (l : List Dc) (w : World) (h : DcsAt w A n l) (hok : OkDcs (l.map Dc.pl)) (hK : KnownAt w) : Calls Tryd.prog 8 #[.slice A n c] w (FillTold l w) := by
  have DS := Lib.hid h
  have HOK := Lib.hid hok
  have HKN := Lib.hid hK
  have hn : n ≤ 16 := by have h1 := hok.1; rw [List.length_map, h.1] at h1; exact h1
  clear h hok hK
  go_enter Tryd.func8, Tryd.ntmps8
  go_wp2_with fail
  refine (new_any w).mono ?_
  rintro e w1 ⟨tb, T0, rfl, ht0, hst0, hB1⟩
  have HT0 := Lib.hid ht0
  have HS0 := Lib.hid (show T0.st = tabR ((l.map Dc.pl).take 0) from hst0)
  have HB1 := Lib.hid hB1
  clear ht0 hst0 hB1
  go_wp2
  go_loopw [5] (fun i wr => ∃ (k : Nat) (T : Tm), k ≤ n ∧ i = .int .i64 k ∧ Hid (TabAt wr w.heap.size tb T) ∧ Hid (T.st = tabR ((l.map Dc.pl).take k)) ∧ Hid (Below w.heap.size w wr)) (fun i _ => n - (intOf i).toNat)
  case atStart => exact ⟨0, T0, by omega, rfl, HT0, HS0, HB1⟩
  case round =>
    obtain ⟨k, T, hk, rfl, HT, HS, HB⟩ := hrel
    by_cases hlt : k < n
    · obtain ⟨a, d, rfl, hx, gx, hdf⟩ := (DcsAt.below (w := w) DS.out HB.out).2 k hlt
      obtain ⟨_, g0, g1, g2, g3, g4, g5, g6, g7, g8, g9, g10, g11, g12⟩ := gx
      have b0 : (0 : Int) ≤ (k : Int) := by omega
      have b1 : (k : Int) < (n : Int) := by omega
      have hdk : (l.map Dc.pl)[k]? = some d.pl := by rw [List.getElem?_map, hx]; rfl
      have hod : OkDc d.pl := HOK.out.2 _ (List.mem_of_getElem? hdk)
      have hdl : d.ds.length ≤ 12 := by have := hod.1; unfold Dc.pl at this; simpa using this
      have C1 := Lib.hid (show Calls Tryd.prog 27 #[.agg #[.int .i64 d.ki, .string d.na, .bool d.pm, .string d.en.na, .string d.en.tx, .bool d.en.out, .string d.en.pu, .string d.en.sy, .string d.en.no, .slice d.A d.ds.length d.c, .string d.pu, .string d.sy, .string d.tx]] wr (TellGive d wr) from give_any d wr hdf (by omega))
      have hbn := Bnd.take HOK.out.2 k (by rw [List.length_map, DS.out.1]; omega)
      have HBN := Lib.hid (show Bnd T.st k by rw [HS.out]; exact hbn)
      have HOD := Lib.hid hod
      have HDF : Hid (DfsAt w d.A d.ds.length d.ds) := by
        obtain ⟨a', d', _, hx', _, hd'⟩ := DS.out.2 k hlt
        rw [hx] at hx'
        cases hx'
        exact hd'
      have HNX := Lib.hid (show tAdd T.st d.pl = tabR ((l.map Dc.pl).take (k + 1)) by unfold tabR; rw [foldl_next tAdd TSt.nil hdk, HS.out]; rfl)
      clear hx hdf hdk hod hdl hbn
      by_cases h1 : d.ki < 1
      · have hto : tOk d.pl = 2 := tOk_bad (.inl h1)
        go_wp2_with fail
        refine C1.out.mono ?_
        rintro e w3 ⟨A3, c3, rfl, ho3, hB3⟩
        have HB3 := Lib.hid (HB.out.trans (hB3.mono HB.out.size))
        have ht3 := HT.out.below hB3
        have C2 := Lib.hid (add_one (k := k) ht3 rfl HB3.out HDF.out HOD.out HKN.out HBN.out (by omega) (own_lowerD ho3 HB.out.size) (off_own HT.out ho3 (Nat.le_refl _)))
        rw [hto] at C2
        have HT3 := Lib.hid ht3
        clear ht3 ho3 hB3 C1
        go_wp2_with fail
        refine C2.out.mono ?_
        rintro e w4 ⟨rfl, T4, hk4, hst4⟩
        have HT4 := Lib.hid hk4.tab
        have HB4 := Lib.hid (HB3.out.trans (hk4.belowB HT3.out HB3.out.size))
        have HS4 := Lib.hid (hst4.trans HNX.out)
        clear hk4 hst4 C2
        go_wp2
        go_roundw
        case rel => exact ⟨k + 1, T4, by omega, by go_num, HT4, HS4, HB4⟩
        case measure => simp [intOf]; omega
      · by_cases h6 : 6 < d.ki
        · have hto : tOk d.pl = 2 := tOk_bad (.inr h6)
          go_wp2_with fail
          refine C1.out.mono ?_
          rintro e w3 ⟨A3, c3, rfl, ho3, hB3⟩
          have HB3 := Lib.hid (HB.out.trans (hB3.mono HB.out.size))
          have ht3 := HT.out.below hB3
          have C2 := Lib.hid (add_one (k := k) ht3 rfl HB3.out HDF.out HOD.out HKN.out HBN.out (by omega) (own_lowerD ho3 HB.out.size) (off_own HT.out ho3 (Nat.le_refl _)))
          rw [hto] at C2
          have HT3 := Lib.hid ht3
          clear ht3 ho3 hB3 C1
          go_wp2_with fail
          refine C2.out.mono ?_
          rintro e w4 ⟨rfl, T4, hk4, hst4⟩
          have HT4 := Lib.hid hk4.tab
          have HB4 := Lib.hid (HB3.out.trans (hk4.belowB HT3.out HB3.out.size))
          have HS4 := Lib.hid (hst4.trans HNX.out)
          clear hk4 hst4 C2
          go_wp2
          go_roundw
          case rel => exact ⟨k + 1, T4, by omega, by go_num, HT4, HS4, HB4⟩
          case measure => simp [intOf]; omega
        · have hto : tOk d.pl = 0 := if_neg (show ¬ (d.ki < 1 ∨ 6 < d.ki) by omega)
          go_wp2_with fail
          refine C1.out.mono ?_
          rintro e w3 ⟨A3, c3, rfl, ho3, hB3⟩
          have HB3 := Lib.hid (HB.out.trans (hB3.mono HB.out.size))
          have ht3 := HT.out.below hB3
          have C2 := Lib.hid (add_one (k := k) ht3 rfl HB3.out HDF.out HOD.out HKN.out HBN.out (by omega) (own_lowerD ho3 HB.out.size) (off_own HT.out ho3 (Nat.le_refl _)))
          rw [hto] at C2
          have HT3 := Lib.hid ht3
          clear ht3 ho3 hB3 C1
          go_wp2_with fail
          refine C2.out.mono ?_
          rintro e w4 ⟨rfl, T4, hk4, hst4⟩
          have HT4 := Lib.hid hk4.tab
          have HB4 := Lib.hid (HB3.out.trans (hk4.belowB HT3.out HB3.out.size))
          have HS4 := Lib.hid (hst4.trans HNX.out)
          clear hk4 hst4 C2
          go_wp2
          go_roundw
          case rel => exact ⟨k + 1, T4, by omega, by go_num, HT4, HS4, HB4⟩
          case measure => simp [intOf]; omega
    · obtain rfl : k = n := by omega
      have e : T.st = tabR (l.map Dc.pl) := by
        have := HS.out
        rwa [List.take_of_length_le (by rw [List.length_map, DS.out.1]; exact Nat.le_refl _)] at this
      have E := Lib.hid e
      clear e
      go_wp2
      go_ret2
      exact ⟨tb, T, rfl, HT.out, E.out, HB.out⟩
end Go.Proofs.YtapjmfgpdkghlaaDoor
