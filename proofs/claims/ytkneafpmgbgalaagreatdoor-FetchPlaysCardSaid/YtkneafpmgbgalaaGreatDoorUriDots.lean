/- The contract of uri.Dots: a path without steps that go nowhere. Conditions: at most 2^20 bytes; internal/bytealg.MaxLen holds an int. -/
import Derived.Test.YtkneafpmgbgalaaGreatDoorUriDec
import Derived.ArgAppend
import Derived.Lib.SmallJoins
namespace Go.Proofs.YtkneafpmgbgalaaGreatDoor
open Go.RowKit Go.Proofs.YtkneafpmgbgalaaGreatDoor.CharsPlain Go.Proofs.YtkneafpmgbgalaaGreatDoor.UriPlain
set_option linter.unusedVariables false
set_option linter.unusedSimpArgs false
theorem Tryz.infoStrU : (Tryz.prog.info? 9).map (fun i => (i.zero, i.size, i.bytes)) = some (some (.string ByteArray.empty), 1, 16) := by kernel_rfl
theorem toL (x : ByteArray) (l : List UInt8) : (x.toList == l) = (x.data.toList == l) := by rw [ByteArray.toList_eq]
def bS (l : List UInt8) : ByteArray := ⟨l.toArray⟩
def sv (l : List UInt8) : Value := .string (bS l)
def strs (ps : List (List UInt8)) : List Value := ps.map sv
theorem bS_size (l : List UInt8) : (bS l).size = l.length := by show l.toArray.size = _; simp
theorem bS_data (l : List UInt8) : (bS l).data.toList = l := rfl
theorem bS_of (s : ByteArray) : bS s.data.toList = s := rfl
/-- A row of texts of the call's own, which may have been cut. -/
def StrRow (B : Nat) (A : Option Addr) (c : Nat) (ps : List (List UInt8)) (w : World) : Prop :=
  w.ownsRow B 9 1 (.slice A ps.length c) ps.length (strs ps) ∨ (c = ps.length ∧ ∃ g, A = some ⟨g, 0, none⟩ ∧ B ≤ g ∧ g < w.heap.size ∧ ∀ j p, ps[j]? = some p → w.cell? ⟨g, j, none⟩ = some (sv p))
theorem StrRow.nil (B : Nat) (w : World) : StrRow B none 0 [] w := .inl (World.ownsRow_nil _ _ _ _)
theorem StrRow.cells {B c : Nat} {g : Nat} {o : Nat} {ps : List (List UInt8)} {w : World} (h : StrRow B (some ⟨g, o, none⟩) c ps w) : o = 0 ∧ B ≤ g ∧ g < w.heap.size ∧ ps.length ≤ c ∧ ∀ j p, ps[j]? = some p → w.cell? ⟨g, j, none⟩ = some (sv p) := by
  rcases h with h | ⟨hc, g', hA, hB, hg, hx⟩
  · rcases h.2 with ⟨h1, _⟩ | ⟨g', cap, cur, hv, hb, hh, hle, hm, hcs, ht⟩
    · cases h1
    · cases hv
      have hlt := (Array.getElem?_eq_some_iff.1 hh).1
      refine ⟨rfl, hb, hlt, hle, fun j p hj => ?_⟩
      have h1 : (strs ps)[j]? = some (sv p) := by unfold strs; rw [List.getElem?_map, hj]; rfl
      rw [← ht, List.getElem?_take] at h1
      split at h1
      · rw [Lib.cell_of_heap hh]
        simpa using h1
      · cases h1
  · cases hA
    exact ⟨rfl, hB, hg, by omega, hx⟩
theorem StrRow.empty {B c : Nat} {ps : List (List UInt8)} {w : World} (h : StrRow B none c ps w) : ps = [] ∧ c = 0 := by
  rcases h with h | ⟨hc, g', hA, _⟩
  · rcases h.2 with ⟨h1, h2⟩ | ⟨g', cap, cur, hv, _⟩
    · cases ps with
      | nil => cases h1; exact ⟨rfl, rfl⟩
      | cons => cases h2
    · cases hv
  · cases hA
theorem StrRow.cases {B c : Nat} {A : Option Addr} {ps : List (List UInt8)} {w : World} (h : StrRow B A c ps w) : (A = Option.none ∧ ps = [] ∧ c = 0) ∨ ∃ g, A = some ⟨g, 0, Option.none⟩ := by
  rcases h with h | ⟨hc, g', hA, _⟩
  · rcases h.2 with ⟨h1, h2⟩ | ⟨g', cap, cur, hv, _⟩
    · cases ps with
      | nil => cases h1; exact .inl ⟨rfl, rfl, rfl⟩
      | cons => cases h2
    · cases hv; exact .inr ⟨g', rfl⟩
  · exact .inr ⟨g', hA⟩
theorem StrRow.none0 {B c : Nat} {g : Nat} {w : World} (h : StrRow B (some ⟨g, 0, Option.none⟩) c [] w) : StrRow B (some ⟨g, 0, Option.none⟩) 0 [] w := by
  obtain ⟨_, h1, h2, h3, h4⟩ := h.cells
  exact .inr ⟨rfl, g, rfl, h1, h2, fun j q hj => by cases hj⟩
theorem StrRow.cut {B g c : Nat} {ps : List (List UInt8)} {p : List UInt8} {w : World} (h : StrRow B (some ⟨g, 0, none⟩) c (ps ++ [p]) w) : StrRow B (some ⟨g, 0, none⟩) ps.length ps w := by
  obtain ⟨_, h1, h2, h3, h4⟩ := h.cells
  refine .inr ⟨rfl, g, rfl, h1, h2, fun j q hj => h4 j q ?_⟩
  rw [List.getElem?_append_left (List.getElem?_eq_some_iff.1 hj).1]; exact hj
theorem StrRow.below {B c : Nat} {A : Option Addr} {ps : List (List UInt8)} {w w' : World} (h : StrRow B A c ps w) (hb : Below w.heap.size w w') : StrRow B A c ps w' := by
  rcases h with h | ⟨hc, g', hA, hB, hg, hx⟩
  · exact .inl (ownRow_belowB h hb)
  · exact .inr ⟨hc, g', hA, hB, Nat.lt_of_lt_of_le hg hb.size, fun j p hj => (hb.cell (p := ⟨g', j, none⟩) hg).trans (hx j p hj)⟩
def TellS (t : ByteArray) (w : World) (e : Ending) (w' : World) : Prop := e = .returned (.string t) ∧ Below w.heap.size w w'
theorem splitB_is (s : ByteArray) : Lib.splitB ⟨#[47]⟩ 0 (Lib.countB s ⟨#[47]⟩) s = (splitS s.data.toList).map bS := by
  have h1 := Lib.splitB_data ⟨#[47]⟩ 0 (Lib.countB s ⟨#[47]⟩) s
  have h2 : Lib.splitK [47] 0 (Lib.countB s ⟨#[47]⟩) s.data.toList = splitS s.data.toList := splitK_splitS s.data.toList
  have h3 : (Lib.splitB ⟨#[47]⟩ 0 (Lib.countB s ⟨#[47]⟩) s).map (fun x => x.data.toList) = splitS s.data.toList := h1.trans h2
  rw [← h3, List.map_map]
  exact (List.map_id' _).symm
theorem openD_take (ps : List (List UInt8)) (k : Nat) (p : List UInt8) (h : ps[k]? = some p) : openD (ps.take (k + 1)) = dotty p := by
  unfold openD
  rw [List.take_add_one, h]
  simp [List.getLastD_eq_getLast?]
theorem stackD_take (ps : List (List UInt8)) (k : Nat) (p : List UInt8) (h : ps[k]? = some p) : stackD (ps.take (k + 1)) = stepD (stackD (ps.take k)) p := by
  unfold stackD
  rw [List.take_add_one, h]
  simp [List.foldl_append]
theorem stackD_len (ps : List (List UInt8)) : (stackD ps).length ≤ ps.length := by
  have : ∀ (ps st : List (List UInt8)), (ps.foldl stepD st).length ≤ st.length + ps.length := by
    intro ps
    induction ps with
    | nil => simp
    | cons p ps ih =>
      intro st
      have h1 := ih (stepD st p)
      have h2 : (stepD st p).length ≤ st.length + 1 := by unfold stepD; split <;> (try split) <;> simp <;> omega
      simp only [List.foldl_cons, List.length_cons]; omega
  have := this ps []
  simpa [stackD] using this
theorem join_row (B : Nat) (A : Option Addr) (c n : Nat) (st : List (List UInt8)) (w : World) (h : StrRow B A c st w) (hn : n = st.length) (hl : st.length ≤ 140737488355328) (hj : (joinS st).length ≤ 140737488355328) :
    Calls Tryz.prog 81 #[.slice A n c, .string ⟨#[47]⟩] w (TellS (bS (joinS st)) w) := by
  subst hn
  rcases h.cases with ⟨hA, hst, hc⟩ | ⟨g, hA⟩
  · subst hA; subst hst
    refine (Tryz.strings_Join_none none c ⟨#[47]⟩ w).mono ?_
    rintro e w' ⟨rfl, rfl⟩
    exact ⟨rfl, Below.refl _ _⟩
  · subst hA
    obtain ⟨_, h1, h2, h3, h4⟩ := h.cells
    have hx : (st.map bS).map (fun x => x.data.toList) = st := by
      rw [List.map_map]
      exact List.map_id' _
    have hjj : Lib.join ((st.map bS).map (fun x => x.data.toList)) [47] = joinS st := by rw [hx]; exact join_joinS st
    have C := Tryz.strings_Join g 0 c (st.map bS) ⟨#[47]⟩ w (fun j x hj => by
        rw [List.getElem?_map] at hj
        obtain ⟨q, hq, rfl⟩ := Option.map_eq_some_iff.1 hj
        rw [Nat.zero_add]
        exact h4 j q hq) h2 (by rw [List.length_map]; exact hl) (by rw [List.length_map]; exact h3)
        (by rw [show Lib.join ((st.map bS).map (fun x => x.data.toList)) (ByteArray.mk #[47]).data.toList = joinS st from hjj]; exact hj)
    rw [List.length_map] at C
    refine C.mono ?_
    rintro e w' ⟨rfl, hb⟩
    refine ⟨?_, hb⟩
    rw [show Lib.join ((st.map bS).map (fun x => x.data.toList)) (ByteArray.mk #[47]).data.toList = joinS st from hjj]
    rfl
theorem bS_app (a b : List UInt8) : bS a ++ bS b = bS (a ++ b) := by
  apply ByteArray.ext
  show (bS a ++ bS b).data = _
  rw [ByteArray.data_append]
  show a.toArray ++ b.toArray = (a ++ b).toArray
  simp
set_option maxRecDepth 100000 in
set_option maxHeartbeats 4000000 in
theorem dots_any (s : ByteArray) (w : World) (m : Int) (hs : s.size ≤ 1048576) (hm : w.cell? ⟨0, 0, none⟩ = some (.int .i64 m)) : Calls Tryz.prog 61 #[.string s] w (TellS (bS (dotsL s.data.toList)) w) := by
  obtain ⟨t, ht⟩ : ∃ t, t = trimS s.data.toList := ⟨_, rfl⟩
  have htl : t.length ≤ s.size := by
    rw [ht, ← len3 s]
    generalize s.data.toList = l
    cases l with
    | nil => simp [trimS]
    | cons c r => simp only [trimS]; split <;> simp
  obtain ⟨ps, hps⟩ : ∃ ps, ps = splitS t := ⟨_, rfl⟩
  have hpn : ps ≠ [] := by rw [hps]; exact splitS_ne t
  have hsz := splitS_size t
  rw [← hps] at hsz
  have hsp : Lib.splitB ⟨#[47]⟩ 0 (Lib.countB (bS t) ⟨#[47]⟩) (bS t) = ps.map bS := by rw [splitB_is, hps]; rfl
  have hct : Lib.countB (bS t) ⟨#[47]⟩ + 1 = ps.length := by
    have := Lib.splitB_all ⟨#[47]⟩ (by decide) 0 _ (bS t) rfl
    rw [hsp, List.length_map] at this
    exact this.symm
  have HT : Hid (Lib.trimPrefix s.data.toList [47] = t) := by show _ = _; rw [trim_trimS, ht]
  have HRES : Hid (dotsL s.data.toList = textD ps) := by show textD (splitS (trimS s.data.toList)) = _; rw [← ht, ← hps]
  have hbt : (bS t).size < 4294967281 := by rw [bS_size]; omega
  clear ht hps
  obtain ⟨i0, hi, hz0, hz1, hz2⟩ := info_parts Tryz.infoStrU
  go_enter Tryz.func61, Tryz.ntmps61
  go_wp2_with fail
  refine (Tryz.strings_TrimPrefix _ _ _).mono ?_
  rintro e w' ⟨rfl, rfl⟩
  rw [show ByteArray.mk (Lib.trimPrefix s.data.toList (ByteArray.mk #[47]).data.toList).toArray = bS t from congrArg bS HT.out]
  have C := Lib.hid (Tryz.strings_Split (bS t) ⟨#[47]⟩ m _ hbt hm (by decide))
  go_wp2_with fail
  refine C.out.mono ?_
  rintro e w1 ⟨rfl, hw1⟩
  rw [hsp] at hw1
  have HX1 : Hid (w1.heap.size = w'.heap.size + 1) := by show _ = _; rw [hw1]; simp
  have hcell : ∀ (k : Nat) p, ps[k]? = some p → w1.cell? ⟨w'.heap.size, k, none⟩ = some (sv p) := fun k p hp => by
    rw [hw1, World.cell?_alloc_mark]
    simp [hp, sv]
  have HC := Lib.hid hcell
  have HB0 : Hid (Below w'.heap.size w' w1) := by show Below _ _ _; rw [hw1]; exact (Below.refl _ _).alloc (Nat.le_refl _) _
  obtain ⟨n, hn⟩ : ∃ n, n = ps.length := ⟨_, rfl⟩
  have hctn : (Lib.countB (bS t) ⟨#[47]⟩ : Int) + 1 = (n : Int) := by omega
  have HN : Hid (ps.length = n) := hn.symm
  have hnn : n ≤ 1048577 := by
    have : ∀ l : List (List UInt8), l.length ≤ (l.map (·.length + 1)).sum := fun l => by
      induction l with
      | nil => simp
      | cons a l ih => simp; omega
    have := this ps
    omega
  clear hw1 hcell hn hct hsp C hm
  go_wp2
  go_loopw [3, 4, 13] (fun v3 v4 v13 wr => ∃ (k : Nat) (A : Option Addr) (c : Nat) (nn : Nat) (o : Bool), k ≤ n ∧ v13 = .int .i64 k ∧ v3 = .slice A nn c ∧ v4 = .bool o ∧ Hid (nn = (stackD (ps.take k)).length) ∧ Hid (StrRow w1.heap.size A c (stackD (ps.take k)) wr) ∧ Hid (o = openD (ps.take k)) ∧ Hid (Below w1.heap.size w1 wr)) (fun _ _ v13 _ => n - (intOf v13).toNat)
  case atStart => exact ⟨0, none, 0, 0, true, Nat.zero_le _, rfl, rfl, rfl, rfl, StrRow.nil _ _, rfl, Below.refl _ _⟩
  case round =>
    obtain ⟨k, A, c, nn, o, hk, rfl, rfl, rfl, HNN, HR, HO, HB⟩ := hrel
    by_cases hlt : k < n
    · obtain ⟨p, hp⟩ : ∃ p, ps[k]? = some p := ⟨_, List.getElem?_eq_getElem (by rw [HN.out]; exact hlt)⟩
      have b0 : (0 : Int) ≤ (k : Int) := by omega
      have b1 : (k : Int) < (n : Int) := by omega
      have c0 : wr.cell? ⟨w'.heap.size, k, none⟩ = some (sv p) := (HB.out.cell (p := ⟨w'.heap.size, k, none⟩) (by show w'.heap.size < w1.heap.size; have := HX1.out; omega)).trans (HC.out k p hp)
      obtain ⟨x, hx⟩ : ∃ x, x = bS p := ⟨_, rfl⟩
      rw [show sv p = .string x from congrArg Value.string hx.symm] at c0
      have hxd : x.data.toList = p := by rw [hx]; rfl
      have HX := Lib.hid hx
      have HO' := Lib.hid (openD_take ps k p hp)
      have HS' := Lib.hid (stackD_take ps k p hp)
      clear hx
      by_cases hu : p = [46, 46]
      · have hx2 : x = ⟨#[46, 46]⟩ := by rw [HX.out, hu]; rfl
        subst hx2
        have HO2 : Hid (openD (ps.take (k + 1)) = true) := by show _ = _; rw [HO'.out, hu]; rfl
        have HS2 : Hid (stackD (ps.take (k + 1)) = (stackD (ps.take k)).dropLast) := by show _ = _; rw [HS'.out, hu]; rfl
        clear hp HO' HS' HX hxd hu
        rcases HR.out.cases with ⟨hA, hst, hc⟩ | ⟨g, hA⟩
        · subst hA; subst hc
          have hnn0 : nn = 0 := by rw [HNN.out, hst]; rfl
          have HST : Hid (stackD (ps.take (k + 1)) = []) := by show _ = _; rw [HS2.out, hst]; rfl
          subst hnn0
          clear hst
          go_wp2
          go_roundw
          case rel => exact ⟨k + 1, none, 0, 0, true, by omega, by go_num, rfl, rfl, by show _ = _; rw [HST.out]; rfl, by show StrRow _ _ _ _ _; rw [HST.out]; exact StrRow.nil _ _, HO2.out.symm, HB.out⟩
          case measure => simp [intOf]; omega
        · subst hA
          rcases List.eq_nil_or_concat (stackD (ps.take k)) with hst | ⟨st, q, hst⟩
          · have hnn0 : nn = 0 := by rw [HNN.out, hst]; rfl
            have HST : Hid (stackD (ps.take (k + 1)) = []) := by show _ = _; rw [HS2.out, hst]; rfl
            have hR := HR.out
            rw [hst] at hR
            have HR0 := Lib.hid hR.none0
            subst hnn0
            clear hst hR
            go_wp2
            go_roundw
            case rel => exact ⟨k + 1, some ⟨g, 0, none⟩, 0, 0, true, by omega, by go_num, rfl, rfl, by show _ = _; rw [HST.out]; rfl, by show StrRow _ _ _ _ _; rw [HST.out]; exact HR0.out, HO2.out.symm, HB.out⟩
            case measure => simp [intOf]; omega
          · rw [List.concat_eq_append] at hst
            have hnn0 : nn = st.length + 1 := by rw [HNN.out, hst]; simp
            have HST : Hid (stackD (ps.take (k + 1)) = st) := by show _ = _; rw [HS2.out, hst]; simp
            have hR := HR.out
            rw [hst] at hR
            have HR0 := Lib.hid hR.cut
            have hcap : st.length + 1 ≤ c := by have := hR.cells.2.2.2.1; simp at this; omega
            have hnn1 : st.length ≤ 1048578 := by
              have h2 := stackD_len (ps.take k)
              rw [List.length_take, hst] at h2
              simp at h2
              have := HN.out
              omega
            obtain ⟨d, hd⟩ : ∃ d, d = st.length := ⟨_, rfl⟩
            rw [← hd] at hnn0 hcap hnn1
            have HD := Lib.hid hd
            subst hnn0
            clear hst hR hd
            go_wp2
            go_roundw
            case rel => exact ⟨k + 1, some ⟨g, 0, none⟩, d, d, true, by omega, by go_num, rfl, rfl, by show _ = _; rw [HST.out]; exact HD.out, by show StrRow _ _ _ _ _; rw [HST.out, HD.out]; exact HR0.out, HO2.out.symm, HB.out⟩
            case measure => simp [intOf]; omega
      · by_cases hd : p = [46]
        · have hx2 : x = ⟨#[46]⟩ := by rw [HX.out, hd]; rfl
          subst hx2
          have HO2 : Hid (openD (ps.take (k + 1)) = true) := by show _ = _; rw [HO'.out, hd]; rfl
          have HS2 : Hid (stackD (ps.take (k + 1)) = stackD (ps.take k)) := by show _ = _; rw [HS'.out, hd]; rfl
          clear hp HO' HS' HX hxd hd hu
          go_wp2
          go_roundw
          case rel => exact ⟨k + 1, A, c, nn, true, by omega, by go_num, rfl, rfl, by show _ = _; rw [HS2.out]; exact HNN.out, by show StrRow _ _ _ _ _; rw [HS2.out]; exact HR.out, HO2.out.symm, HB.out⟩
          case measure => simp [intOf]; omega
        · have q1 : (x.toList == [46, 46]) = false := by rw [toL, hxd]; simpa using hu
          have q2 : (x.toList == [46]) = false := by rw [toL, hxd]; simpa using hd
          have HO2 : Hid (openD (ps.take (k + 1)) = false) := by show _ = _; rw [HO'.out]; simp [dotty, hu, hd]
          have HS2 : Hid (stackD (ps.take (k + 1)) = stackD (ps.take k) ++ [p]) := by show _ = _; rw [HS'.out]; simp [stepD, hu, hd]
          clear hp HO' HS' hxd hd hu
          have hnn1 : nn + 1 ≤ 1048578 := by
            have h1 := HNN.out
            have h2 := stackD_len (ps.take k)
            rw [List.length_take] at h2
            omega
          have hsize : w1.heap.size ≤ wr.heap.size := HB.out.size
          have NEW : Hid (∀ (j : Nat) u, [Value.string x][j]? = some u → (wr.alloc (.cells #[.string x] 9)).cell? ((⟨wr.heap.size, 0, none⟩ : Addr).add j) = some u) := fun j u hj => by
            have : j = 0 := by
              rcases j with _ | j
              · rfl
              · simp at hj
            subst this
            show (wr.alloc _).cell? ⟨wr.heap.size, 0, none⟩ = _
            rw [World.cell?_alloc_mark]; simpa using hj
          have HX2 : Hid (strs (stackD (ps.take k)) ++ [.string x] = strs (stackD (ps.take (k + 1)))) := by
            show _ = _
            rw [HS2.out, HX.out]; unfold strs; rw [List.map_append]; rfl
          have HL2 : Hid (nn + 1 = (stackD (ps.take (k + 1))).length) := by show _ = _; rw [HS2.out, List.length_append, ← HNN.out]; rfl
          rcases HR.out with hown | ⟨hcn, g, hA, hg1, hg2, hgc⟩
          · have hown' : wr.ownsRow w1.heap.size 9 1 (.slice A nn c) nn (strs (stackD (ps.take k))) := by rw [HNN.out]; exact hown
            have HOWN := Lib.hid hown'
            clear hown hown' HR HX
            go_wp2_with (at_builtin; refine wpList_append_own _ rfl _ _ 22 rfl w1.heap.size 9 i0 (.string ByteArray.empty) 1 16 Tryz.underlying22 hi hz0 hz1 hz2 rfl (by decide) _ _ _ rfl (HOWN.out.alloc _) ⟨wr.heap.size, 0, none⟩ 1 1 [.string x] rfl rfl NEW.out ?c2 ?c3 ?c4 ?c5 ?_)
            case c2 => intro u hu; simp at hu; subst hu; rfl
            case c3 => unfold maxLen; omega
            case c4 => omega
            case c5 => simp; omega
            intro v' w2 hown' hgrow _
            obtain ⟨g', c', rfl⟩ := Joins.ownsRow_form hown' (by omega)
            have HB2 : Hid (Below w1.heap.size w1 w2) := (HB.out.alloc hsize _).grown hgrow (by simp; omega) (fun b hb => (HOWN.out.lt b hb).1)
            rw [HX2.out] at hown'
            have HOWN2 := Lib.hid hown'
            clear hown' hgrow
            go_wp2
            go_roundw
            case rel => exact ⟨k + 1, some ⟨g', 0, none⟩, c', nn + 1, false, by omega, by go_num, rfl, rfl, HL2.out, .inl (by rw [← HL2.out]; exact HOWN2.out), HO2.out.symm, HB2.out⟩
            case measure => simp [intOf]; omega
          · subst hA
            have hcnn : c = nn := hcn.trans HNN.out.symm
            subst hcnn
            have OLD : Hid (∀ b, some (⟨g, 0, none⟩ : Addr) = some b → ∀ (j : Nat) u, (strs (stackD (ps.take k)))[j]? = some u → (wr.alloc (.cells #[.string x] 9)).cell? (b.add j) = some u) := fun b hb j u hj => by
              cases hb
              unfold strs at hj
              rw [List.getElem?_map] at hj
              obtain ⟨q, hq, rfl⟩ := Option.map_eq_some_iff.1 hj
              have h1 := hgc j q hq
              have e1 : (⟨g, 0, none⟩ : Addr).add j = ⟨g, j, none⟩ := by
                unfold Addr.add
                split
                · rename_i h; subst h; rfl
                · show (⟨g, 0 + j, none⟩ : Addr) = _; rw [Nat.zero_add]
              rw [e1, ← h1]
              exact ((Below.refl wr.heap.size wr).alloc (Nat.le_refl _) _).cell (p := ⟨g, j, none⟩) hg2
            have HLS : Hid ((strs (stackD (ps.take k))).length = c * 1) := by show _ = _; unfold strs; rw [List.length_map, HNN.out, Nat.mul_one]
            clear HR HX hgc hcn
            go_wp2_with (at_builtin; refine wpList_append_grows _ rfl (.tmp 37) (.tmp 39) 22 rfl 9 i0 (.string ByteArray.empty) 1 16 Tryz.underlying22 hi hz0 hz1 hz2 rfl (by decide) (some ⟨g, 0, none⟩) _ _ (strs (stackD (ps.take k))) rfl (fun h => by cases h) HLS.out OLD.out ⟨wr.heap.size, 0, none⟩ 1 1 [.string x] rfl rfl NEW.out ?c2 ?c6 ?c3 ?c4 ?_)
            case c2 => intro u hu; simp at hu; subst hu; rfl
            case c6 => omega
            case c3 => unfold maxLen; omega
            case c4 => omega
            intro v' w2 hown' hgrow
            obtain ⟨g', c', rfl⟩ := Joins.ownsRow_form hown' (by omega)
            have HB2 : Hid (Below w1.heap.size w1 w2) := (HB.out.alloc hsize _).grown hgrow (by simp; omega) (fun b hb => by cases hb)
            rw [HX2.out] at hown'
            have hle : w1.heap.size ≤ wr.heap.size + 1 := by omega
            have HOWN2 := Lib.hid (Joins.ownsRow_le hown' hle)
            clear hown' hgrow
            go_wp2
            go_roundw
            case rel => exact ⟨k + 1, some ⟨g', 0, none⟩, c', _ + 1, false, by omega, by go_num, rfl, rfl, HL2.out, .inl (by rw [← HL2.out]; exact HOWN2.out), HO2.out.symm, HB2.out⟩
            case measure => simp [intOf]; omega
    · obtain rfl : k = n := by omega
      obtain ⟨st, hst⟩ : ∃ st, st = stackD ps := ⟨_, rfl⟩
      have htk : ps.take k = ps := List.take_of_length_le (by rw [HN.out]; exact Nat.le_refl _)
      have hNN := HNN.out
      have hR := HR.out
      have hO := HO.out
      rw [htk] at hNN hR hO
      rw [← hst] at hNN hR
      have hj1 := joinS_size st
      have hj2 := stack_size ps []
      rw [show ps.foldl stepD [] = st from hst.symm] at hj2
      simp only [List.map_nil, List.sum_nil] at hj2
      have hjl : (joinS st).length ≤ 1048577 := by omega
      have hln : nn ≤ 1048577 := by have h2 := stackD_len ps; rw [← hst] at h2; have := HN.out; omega
      have HTX : Hid (textD ps = 47 :: joinS st ++ (if o && !st.isEmpty then [47] else [])) := by show _ = _; unfold textD; rw [← hst, hO]
      obtain ⟨J, hJ⟩ : ∃ J, J = bS (joinS st) := ⟨_, rfl⟩
      have hJs : J.size ≤ 1048577 := by rw [hJ, bS_size]; exact hjl
      have CJ := Lib.hid (join_row w1.heap.size A c nn st wr hR hNN (by omega) (by omega))
      rw [← hJ] at CJ
      have hS1 := fun w' => run_string_add (P := Tryz.prog) w' ⟨#[47]⟩ J (by decide) (by omega)
      have HJ := Lib.hid hJ
      have hBW := HB0.out.trans (HB.out.mono HB0.out.size)
      have HBW := Lib.hid hBW
      have HNN2 := Lib.hid hNN
      clear hst htk hR hO hJ hjl hj1 hj2 hBW HNN HR HO HB HC hNN
      cases o with
      | false =>
        have HF : Hid (⟨#[47]⟩ ++ J = bS (dotsL s.data.toList)) := by
          show _ = _
          rw [HRES.out, HTX.out, HJ.out]
          exact (bS_app [47] (joinS st)).trans (congrArg bS (by simp))
        clear HTX HRES HJ
        go_wp2_with fail
        go_at_call 81
        refine CJ.out.mono ?_
        rintro e w2 ⟨rfl, hb2⟩
        go_wp2
        go_ret
        rw [HF.out]
        exact ⟨rfl, HBW.out.trans (hb2.mono HBW.out.size)⟩
      | true =>
        by_cases h0 : nn = 0
        · have HF : Hid (⟨#[47]⟩ ++ J = bS (dotsL s.data.toList)) := by
            have : st = [] := List.length_eq_zero_iff.1 (by have := HNN2.out; omega)
            show _ = _
            rw [HRES.out, HTX.out, HJ.out]
            exact (bS_app [47] (joinS st)).trans (congrArg bS (by rw [this]; rfl))
          subst h0
          clear HTX HRES HJ
          go_wp2_with fail
          go_at_call 81
          refine CJ.out.mono ?_
          rintro e w2 ⟨rfl, hb2⟩
          go_wp2
          go_ret
          rw [HF.out]
          exact ⟨rfl, HBW.out.trans (hb2.mono HBW.out.size)⟩
        · have HF : Hid (⟨#[47]⟩ ++ J ++ ⟨#[47]⟩ = bS (dotsL s.data.toList)) := by
            have : st.isEmpty = false := by
              rw [List.isEmpty_eq_false_iff]
              intro h; have hNN := HNN2.out; rw [h] at hNN; exact h0 (by simpa using hNN)
            show _ = _
            rw [HRES.out, HTX.out, HJ.out, this]
            have e1 : (⟨#[47]⟩ : ByteArray) ++ bS (joinS st) = bS (47 :: joinS st) := bS_app [47] (joinS st)
            rw [e1]
            exact bS_app _ [47]
          have hS2 := fun w' => run_string_add (P := Tryz.prog) w' (⟨#[47]⟩ ++ J) ⟨#[47]⟩ (by rw [ByteArray.size_append, show (ByteArray.mk #[47]).size = 1 from rfl]; omega) (by decide)
          have h1 : (0 : Int) < (nn : Int) := by omega
          clear HTX HRES HJ h0
          go_wp2_with fail
          go_at_call 81
          refine CJ.out.mono ?_
          rintro e w2 ⟨rfl, hb2⟩
          go_wp2
          go_ret
          rw [HF.out]
          exact ⟨rfl, HBW.out.trans (hb2.mono HBW.out.size)⟩
end Go.Proofs.YtkneafpmgbgalaaGreatDoor
