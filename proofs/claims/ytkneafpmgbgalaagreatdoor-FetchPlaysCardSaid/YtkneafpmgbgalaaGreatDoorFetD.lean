/- Merged texts: FetUse, FetLaw, FetStep, FetLive, and what stands in memory of the configuration. -/
import Derived.Test.YtkneafpmgbgalaaGreatDoorFetNew
import Derived.Test.YtkneafpmgbgalaaGreatDoorOrLaw
import Derived.Test.YtkneafpmgbgalaaGreatDoorAllowFindsLaw
import Derived.Test.YtkneafpmgbgalaaGreatDoorShelf
import Derived.Test.YtkneafpmgbgalaaGreatDoorFetB
import Derived.Test.YtkneafpmgbgalaaGreatDoorAnsQ
import Derived.Test.YtkneafpmgbgalaaGreatDoorFetGet
import Derived.Lib.SlBytesConst
import Derived.Deep.Cut
import Derived.Test.YtkneafpmgbgalaaGreatDoorOrOnly
import Derived.Deep.QuietTactic
import Derived.Deep.RegionHeld3
/- The contracts of fetch's Trace, Read, Left; of narthexlaw24.great; of narthexref24.Check. Conditions: internal/bytealg.MaxLen holds an int. -/
namespace Go.Proofs.YtkneafpmgbgalaaGreatDoor
open Go.RowKit Go.Maps Go.Proofs.YtkneafpmgbgalaaGreatDoor.UriPlain
set_option linter.unusedVariables false
set_option linter.unusedSimpArgs false
set_option maxRecDepth 100000 in
set_option maxHeartbeats 2000000 in
theorem trace_any (base g : Nat) (s : GM) (w : World) (hG : GuardAt w base g s) (h0 : 0 < base) (hts : s.ts.length ≤ 1048576) :
    Calls Tryz.prog 13 #[.pointer (some ⟨g, 0, none⟩)] w (TellRowF s.ts w) := by
  obtain ⟨mf, lf, rd, B, p, d, L, A, c, ys, v, M, nM, D, ts, vs⟩ := s
  dsimp only at hG hts
  obtain ⟨A5, c5, hv5, hc51, hc52⟩ := ownF_shape hG.trace
  dsimp only at hv5
  subst hv5
  have C := Lib.hid (cloneStrs_any A5 ts.length c5 ts w (TsAt.of_own hG.trace) hts)
  have hg0 : 0 < g := Nat.lt_of_lt_of_le h0 hG.gbase
  obtain ⟨u0, u1, u2, u3, u4, u5, u6⟩ := guard_cell hG.blk
  dsimp only at u5
  clear hG
  go_enter Tryz.func13, Tryz.ntmps13
  go_wp2_with fail
  refine C.out.mono ?_
  rintro e w1 ⟨R, c1, rfl, hown, hB⟩
  go_wp2
  go_ret
  exact ⟨R, c1, rfl, hown, hB⟩
theorem read_any (base g : Nat) (s : GM) (w : World) (hG : GuardAt w base g s) (h0 : 0 < base) : Calls Tryz.prog 14 #[.pointer (some ⟨g, 0, none⟩)] w (RetI s.rd w) := by
  have hg0 : 0 < g := Nat.lt_of_lt_of_le h0 hG.gbase
  obtain ⟨u0, u1, u2, u3, u4, u5, u6⟩ := guard_cell hG.blk
  generalize s.rd = rd at *
  clear hG u0 u1 u3 u4 u5 u6
  go_enter Tryz.func14, Tryz.ntmps14
  go_wp2
  go_ret
  exact ⟨rfl, rfl⟩
theorem left_any (base g : Nat) (s : GM) (w : World) (hG : GuardAt w base g s) (h0 : 0 < base) : Calls Tryz.prog 16 #[.pointer (some ⟨g, 0, none⟩)] w (RetI s.lf w) := by
  have hg0 : 0 < g := Nat.lt_of_lt_of_le h0 hG.gbase
  obtain ⟨u0, u1, u2, u3, u4, u5, u6⟩ := guard_cell hG.blk
  generalize s.lf = rd at *
  clear hG u0 u2 u3 u4 u5 u6
  go_enter Tryz.func16, Tryz.ntmps16
  go_wp2
  go_ret
  exact ⟨rfl, rfl⟩
def RetV (v : Value) (w : World) (e : Ending) (w' : World) : Prop := e = .returned v ∧ w = w'
theorem trace_nil (w : World) : Calls Tryz.prog 13 #[.pointer none] w (RetV (.slice none 0 0) w) := by
  go_enter Tryz.func13, Tryz.ntmps13
  go_wp2
  go_ret
  exact ⟨rfl, rfl⟩
theorem read_nil (w : World) : Calls Tryz.prog 14 #[.pointer none] w (RetI 0 w) := by
  go_enter Tryz.func14, Tryz.ntmps14
  go_wp2
  go_ret
  exact ⟨rfl, rfl⟩
theorem left_nil (w : World) : Calls Tryz.prog 16 #[.pointer none] w (RetI 0 w) := by
  go_enter Tryz.func16, Tryz.ntmps16
  go_wp2
  go_ret
  exact ⟨rfl, rfl⟩
theorem get_nil (s : ByteArray) (w : World) : Calls Tryz.prog 11 #[.pointer none, .string s] w (RetV (.tuple #[.slice none 0 0, .int .i64 1]) w) := by
  go_enter Tryz.func11, Tryz.ntmps11
  go_wp2
  go_ret2
  exact ⟨rfl, rfl⟩
def TellGreatF (mf mb : Int) (l : List An) (L ids : List ByteArray) (w : World) (e : Ending) (w' : World) : Prop := ∃ b : Bool, e = .returned (.bool b) ∧ Below w.heap.size w w' ∧ (b = false → l.length ≤ 260 ∧ (∀ x ∈ l, x.id.size ≤ 200 ∧ x.n ≤ 2000) ∧ L.length ≤ 80 ∧ (∀ x ∈ L, x.size ≤ 300) ∧ ids.length ≤ 30 ∧ ∀ x ∈ ids, x.size ≤ 200)
theorem snoc200 {l : List ByteArray} {k : Nat} {x : ByteArray} (h : ∀ y ∈ l.take k, y.size ≤ 200) (hx : l[k]? = some x) (hp : x.size ≤ 200) : ∀ y ∈ l.take (k + 1), y.size ≤ 200 := by
  intro y hy
  rw [List.take_add_one, hx] at hy
  rcases List.mem_append.1 hy with hy | hy
  · exact h y hy
  · obtain rfl : y = x := by simpa using hy
    exact hp
set_option maxRecDepth 100000 in
set_option maxHeartbeats 4000000 in
theorem great24_any (a b mf mb f g0 : Int) (B : Option Addr) (p d : Nat) (L : List ByteArray) (A : Option Addr) (n c : Nat) (l : List An) (I : Option Addr) (q r : Nat) (ids : List ByteArray) (w : World) (hL : TsAt w B p L) (hp : p ≤ 9223372036854775807) (hl : AnsAt w A n l) (hn : n ≤ 9223372036854775807) (hI : TsAt w I q ids) (hq : q ≤ 9223372036854775807) :
    Calls Tryz.prog 6 #[cfgV a b mf mb f g0 B p d, .slice A n c, .slice I q r] w (TellGreatF mf mb l L ids w) := by
  obtain rfl := hl.1
  obtain ⟨W, hW, hbW, hltW, c4, c5, c6⟩ := cfgBox w a b mf mb f g0 B p d 24
  have G1 := Lib.hid (great23_any A l.length c l W hn (hl.below hbW))
  have G2 := Lib.hid (great22_any B p d L W (hL.below hbW) hp)
  have HI := Lib.hid (hI.below hbW)
  have HL := Lib.hid hL
  have HBW := Lib.hid hbW
  obtain ⟨gb, hgb⟩ : ∃ gb, gb = greatA l := ⟨_, rfl⟩
  rw [← hgb] at G1
  have HGB := Lib.hid hgb
  unfold cfgCells at hW
  unfold cfgV
  clear hl hL hI hbW hgb
  go_enter Tryz.func6, Tryz.ntmps6
  go_wp2
  go_loopw [7] (fun v3 wr => ∃ k : Nat, k ≤ q ∧ k ≤ 60 ∧ v3 = .int .i64 k ∧ Hid (∀ y ∈ ids.take k, y.size ≤ 200) ∧ wr = W) (fun v3 _ => 100 - (intOf v3).toNat)
  case atStart => exact ⟨0, Nat.zero_le _, Nat.zero_le _, rfl, (by intro y hy; simp at hy), by first | rfl | trivial⟩
  case round =>
    obtain ⟨k, hk, hk2, rfl, HT, rfl⟩ := hrel
    have endG : ∀ (b1 b2 : Bool), (greatA l = b1) → (b1 = false → b2 = false → L.length ≤ 80 ∧ ∀ x ∈ L, x.size ≤ 300) → ¬ (k < q ∧ k < 60) → TellGreatF mf mb l L ids w (.returned (.bool (b1 || b2 || decide ((30 : Int) < (q : Int))))) wr := by
      intro b1 b2 h1 h2 h3
      refine ⟨_, rfl, HBW.out, fun h => ?_⟩
      simp only [Bool.or_eq_false_iff, decide_eq_false_iff_not] at h
      obtain ⟨⟨e1, e2⟩, e3⟩ := h
      subst e1 e2
      obtain ⟨x1, x2⟩ := greatA_no h1
      obtain ⟨x3, x4⟩ := h2 rfl rfl
      have hql := HI.out.1
      refine ⟨x1, x2, x3, x4, by omega, fun x hx => ?_⟩
      have := HT.out x
      rw [List.take_of_length_le (by omega)] at this
      exact this hx
    have HEND := Lib.hid endG
    clear endG
    by_cases hlt : k < q
    · by_cases h60 : k < 60
      · obtain ⟨a1, x, rfl, hx, _, g1⟩ := HI.out.2 k hlt
        have b0 : (0 : Int) ≤ (k : Int) := by omega
        have b1 : (k : Int) < (q : Int) := by omega
        have b2 : (k : Int) < 60 := by omega
        by_cases hz : 200 < x.size
        · have b3 : (200 : Int) < (x.size : Int) := by omega
          clear hx
          go_wp2
          go_ret
          exact ⟨true, rfl, HBW.out, fun h => by cases h⟩
        · have b3 : ¬ (200 : Int) < (x.size : Int) := by omega
          have HX := Lib.hid (snoc200 HT.out hx (by omega))
          clear hx
          go_wp2
          go_roundw
          case rel => exact ⟨k + 1, by omega, by omega, by go_num, HX, by first | rfl | trivial⟩
          case measure => simp [intOf]; omega
      · have b1 : (k : Int) < (q : Int) := by omega
        have b2 : ¬ (k : Int) < 60 := by omega
        go_wp2_with fail
        refine G1.out.mono ?_
        rintro e w1 ⟨rfl, rfl⟩
        cases gb with
        | true =>
          go_wp2
          go_ret
          exact ⟨true, rfl, HBW.out, fun h => by cases h⟩
        | false =>
          go_wp2_with fail
          refine G2.out.mono ?_
          rintro e w2 ⟨b2', rfl, rfl, hb⟩
          have HB2 := Lib.hid hb
          clear hb
          cases b2' with
          | true =>
            go_wp2
            go_ret
            exact ⟨true, rfl, HBW.out, fun h => by cases h⟩
          | false =>
            go_wp2
            go_ret
            have := HEND.out false false HGB.out.symm (fun _ _ => HB2.out (by first | rfl | trivial)) (by omega)
            simpa using this
    · have b1 : ¬ (k : Int) < (q : Int) := by omega
      go_wp2_with fail
      refine G1.out.mono ?_
      rintro e w1 ⟨rfl, rfl⟩
      cases gb with
      | true =>
        go_wp2
        go_ret
        exact ⟨true, rfl, HBW.out, fun h => by cases h⟩
      | false =>
        go_wp2_with fail
        refine G2.out.mono ?_
        rintro e w2 ⟨b2', rfl, rfl, hb⟩
        have HB2 := Lib.hid hb
        clear hb
        cases b2' with
        | true =>
          go_wp2
          go_ret
          exact ⟨true, rfl, HBW.out, fun h => by cases h⟩
        | false =>
          go_wp2
          go_ret
          have := HEND.out false false HGB.out.symm (fun _ _ => HB2.out (by first | rfl | trivial)) (by omega)
          simpa using this
def checkF (mf mb : Int) (L : List ByteArray) (n : Nat) : Int := if limB mf = false ∨ limB mb = false then 2 else if checkE L ≠ 0 then checkE L else if 256 < n then 13 else 0
set_option maxRecDepth 100000 in
set_option maxHeartbeats 4000000 in
theorem rcheck24_any (a b mf mb f g0 : Int) (B : Option Addr) (p d : Nat) (L : List ByteArray) (A : Option Addr) (n c : Nat) (w : World) (hL : TsAt w B p L) (hp : p ≤ 1048576) (hS : Shorts L) :
    Calls Tryz.prog 7 #[cfgV a b mf mb f g0 B p d, .slice A n c] w (TellI (checkF mf mb L n) w) := by
  obtain ⟨W, hW, hbW, hltW, c4, c5, c6⟩ := cfgBox w a b mf mb f g0 B p d 24
  have G2 := Lib.hid (rcheck22_any B p d L W (hL.below hbW) hp hS)
  have HBW := Lib.hid hbW
  obtain ⟨ce, hce⟩ : ∃ ce, ce = checkE L := ⟨_, rfl⟩
  rw [← hce] at G2
  have HCE := Lib.hid hce
  have e0 : ∀ {r : Int}, r = checkF mf mb L n → TellI (checkF mf mb L n) w (.returned (.int .i64 r)) W := fun h => ⟨by rw [h], hbW⟩
  have E0 := Lib.hid (fun r => @e0 r)
  have E2 := Lib.hid (fun (h : limB mf = false ∨ limB mb = false) => show (2 : Int) = checkF mf mb L n by unfold checkF; rw [if_pos h])
  have E3 := Lib.hid (fun (h1 : limB mf = true) (h2 : limB mb = true) => show checkF mf mb L n = (if ce ≠ 0 then ce else if 256 < n then 13 else 0) by unfold checkF; rw [if_neg (by simp [h1, h2]), hce])
  unfold cfgCells at hW
  unfold cfgV
  have LB := fun (w2 : World) (r : Int) (hb : Below W.heap.size W w2) (h : r = checkF mf mb L n) => (show TellI (checkF mf mb L n) w (.returned (.int .i64 r)) w2 from ⟨by rw [h], hbW.trans (hb.mono hbW.size)⟩)
  have LB := Lib.hid LB
  clear hL hbW hce e0
  have hlim : ∀ x : Int, limB x = true ↔ (0 ≤ x ∧ x ≤ 1099511627776) := fun x => by unfold limB; simp
  have hlim' : ∀ x : Int, limB x = false ↔ ¬ (0 ≤ x ∧ x ≤ 1099511627776) := fun x => by rw [← hlim x]; simp
  have HLIM := Lib.hid hlim
  have HLIM' := Lib.hid hlim'
  clear hlim hlim'
  go_enter Tryz.func7, Tryz.ntmps7
  by_cases k1 : mf < 0
  · go_wp2
    go_ret
    exact E0.out _ (E2.out (.inl ((HLIM'.out mf).2 (by omega))))
  by_cases k2 : 1099511627776 < mf
  · go_wp2
    go_ret
    exact E0.out _ (E2.out (.inl ((HLIM'.out mf).2 (by omega))))
  by_cases k3 : mb < 0
  · go_wp2
    go_ret
    exact E0.out _ (E2.out (.inr ((HLIM'.out mb).2 (by omega))))
  by_cases k4 : 1099511627776 < mb
  · go_wp2
    go_ret
    exact E0.out _ (E2.out (.inr ((HLIM'.out mb).2 (by omega))))
  have E3' := Lib.hid (E3.out ((HLIM.out mf).2 (by omega)) ((HLIM.out mb).2 (by omega)))
  go_wp2_with fail
  refine G2.out.mono ?_
  rintro e w2 ⟨rfl, hB2⟩
  have HB2 := Lib.hid hB2
  clear hB2
  by_cases k5 : ce = 0
  · by_cases k6 : 256 < n
    · have b6 : (256 : Int) < (n : Int) := by omega
      go_wp2
      go_ret
      exact LB.out _ _ HB2.out (by rw [E3'.out, if_neg (by simp [k5]), if_pos k6])
    · have b6 : ¬ (256 : Int) < (n : Int) := by omega
      go_wp2
      go_ret
      exact LB.out _ _ HB2.out (by rw [E3'.out, if_neg (by simp [k5]), if_neg k6])
  · go_wp2
    go_ret
    exact LB.out _ _ HB2.out (by rw [E3'.out, if_pos k5])
end Go.Proofs.YtkneafpmgbgalaaGreatDoor
/- What a guard tells of a script and of what of it is allowed: plain lists; no program in sight. -/
namespace Go.Proofs.YtkneafpmgbgalaaGreatDoor
open Go.Proofs.YtkneafpmgbgalaaGreatDoor.UriPlain
set_option linter.unusedVariables false
theorem find_congrF {α : Type} {p q : α → Bool} {l : List α} (h : ∀ a ∈ l, p a = q a) : l.find? p = l.find? q := by
  induction l with
  | nil => rfl
  | cons a l ih =>
    rw [List.find?_cons, List.find?_cons, h a (by simp), ih (fun b hb => h b (by simp [hb]))]
theorem found_only {L : List ByteArray} {ps : List AnP} {s : ByteArray} (h : findB L s.data.toList = true) : foundA (onlyA L ps) s = foundA ps s := by
  unfold foundA
  split
  · rw [putA_find, putA_find]
    congr 1
    unfold onlyA
    rw [List.find?_filter]
    refine find_congrF (fun a ha => ?_)
    cases ho : ofA (nrmA s) a with
    | false => simp
    | true =>
      unfold ofA at ho
      rw [Bool.and_eq_true] at ho
      have h1 := of_decide_eq_true ho.1
      have h2 := of_decide_eq_true ho.2
      have h3 : normU a.id.data.toList = normU s.data.toList := by
        have := congrArg (fun x : ByteArray => x.data.toList) h2
        simpa [nrmA, bS] using this
      have hk : keepA L a = true := by
        unfold keepA
        unfold findB at h ⊢
        rw [h3, show uriE a.id.data.toList = 0 from h1]
        rw [Bool.and_eq_true] at h
        rw [h.2]; rfl
      rw [hk]; rfl
  · rfl
theorem get_only {L : List ByteArray} {ps : List AnP} {mf mb : Int} {st : FS} {id : ByteArray} (hid : id.size ≤ 4000) (hps : ∀ a ∈ ps, a.id.size ≤ 4000) : getF L (putA (onlyA L ps)) mf mb st id = getF L (putA ps) mf mb st id := by
  cases hf : findB L id.data.toList with
  | false => rw [getF_no hf, getF_no hf]
  | true =>
    have hn : errA id = 0 := by
      unfold findB at hf
      rw [Bool.and_eq_true] at hf
      exact of_decide_eq_true hf.1
    have h2 : findB L (nrmA id).data.toList = true := by
      have hb : (nrmA id).data.toList = normU id.data.toList := by unfold nrmA bS; simp
      have h4 := norm_twice hn hid
      have h5 : normU (nrmA id).data.toList = normU id.data.toList := by
        have := congrArg (fun x : ByteArray => x.data.toList) h4.2
        simpa [nrmA, bS] using this
      unfold findB at hf ⊢
      rw [h5, show uriE (nrmA id).data.toList = 0 from h4.1]
      rw [Bool.and_eq_true] at hf
      rw [hf.2]; rfl
    have ha : askF (putA (onlyA L ps)) mb st.rd (nrmA id) = askF (putA ps) mb st.rd (nrmA id) := by
      unfold askF
      rw [found_put (onlyA L ps) (nrmA id) (fun a ha => hps a (List.mem_filter.1 ha).1), found_put ps (nrmA id) hps, found_only h2]
    cases hi : idxT st.tr (nrmA id) with
    | some i => rw [getF_old hf hi, getF_old hf hi]
    | none =>
      by_cases hm : mf ≤ st.tr.length
      · rw [getF_full hf hi hm, getF_full hf hi hm]
      · rw [getF_new hf hi hm, getF_new hf hi hm, ha]
end Go.Proofs.YtkneafpmgbgalaaGreatDoor
/- A guard with its state; a step; the walk of narthexlaw24.live. Conditions: internal/bytealg.MaxLen holds an int. -/
namespace Go.Proofs.YtkneafpmgbgalaaGreatDoor
open Go.RowKit Go.Maps Go.Proofs.YtkneafpmgbgalaaGreatDoor.UriPlain
set_option linter.unusedVariables false
set_option linter.unusedSimpArgs false
structure GOk (w : World) (base g : Nat) (L : List ByteArray) (ps : List AnP) (mf mb : Int) (st : FS) (s : GM) : Prop where
  guard : GuardAt w base g s
  hL : s.L = L
  ys : s.ys.map An.pl = ps
  hmf : s.mf = mf
  sum : s.lf + s.rd = mb
  hst : s.st = st
  vz : ∀ x ∈ s.vs, x.1.n ≤ 1048576
  ok : FOk L mf mb st
theorem GOk.below {w w' : World} {base g : Nat} {L : List ByteArray} {ps : List AnP} {mf mb : Int} {st : FS} {s : GM} (h : GOk w base g L ps mf mb st s) (hb : Below w.heap.size w w') : GOk w' base g L ps mf mb st s :=
  ⟨h.guard.below hb, h.hL, h.ys, h.hmf, h.sum, h.hst, h.vz, h.ok⟩
theorem GOk.new {w w' : World} {mf mb : Int} {L : List ByteArray} {ps : List AnP} {e : Ending} {g : Nat} {s : GM} (h : NewTold w mf mb L ps e w' g s) (h1 : 0 ≤ mf) (h2 : 0 ≤ mb) : GOk w' w.heap.size g L (putA ps) mf mb fs0 s :=
  ⟨h.guard, h.L, h.ys, h.mf, by rw [h.lf, h.rd]; omega, by unfold GM.st; rw [h.ts, h.vs, h.rd]; rfl, by rw [h.vs]; simp, FOk.start L mf mb h1 h2⟩
structure GStep (w : World) (base g : Nat) (L : List ByteArray) (ps : List AnP) (mf mb : Int) (st : FS) (s : GM) (id : ByteArray) (e : Ending) (w' : World) (s' : GM) (R : Option Addr) (n c : Nat) : Prop where
  ret : e = .returned (.tuple #[.slice R n c, .int .i64 (getF L ps mf mb st id).2.2])
  bytes : BOwn w' R n (getF L ps mf mb st id).2.1
  ok : GOk w' base g L ps mf mb (getF L ps mf mb st id).1 s'
  keep : KeepG w w' (s.may g)
  M : s'.M = s.M
  al : (Value.slice s'.B s'.p s'.d) = .slice s.B s.p s.d
  own : s'.v.ownBlock = s.v.ownBlock ∨ ∃ k, s'.v.ownBlock = some k ∧ w.heap.size ≤ k
  more : s'.ts.length ≤ s.ts.length + 1
def GStepE (base g : Nat) (L : List ByteArray) (ps : List AnP) (mf mb : Int) (st : FS) (s : GM) (id : ByteArray) (w : World) (e : Ending) (w' : World) : Prop := ∃ s' R n c, GStep w base g L ps mf mb st s id e w' s' R n c
theorem get_step (base g : Nat) (L : List ByteArray) (ps : List AnP) (mf mb : Int) (st : FS) (s : GM) (id : ByteArray) (w : World) (m : Int) (h : GOk w base g L ps mf mb st s) (hm : w.cell? ⟨0, 0, none⟩ = some (.int .i64 m)) (h0 : 0 < base)
    (hp : L.length ≤ 1048576) (hS : Shorts L) (hyn : ps.length ≤ 1048576) (hyz : ∀ a ∈ ps, a.da.length ≤ 1048576) (hts : st.tr.length ≤ 1048576) (hmb : mb ≤ 1099511627776) :
    Calls Tryz.prog 11 #[.pointer (some ⟨g, 0, none⟩), .string id] w (GStepE base g L ps mf mb st s id w) := by
  have htr : s.ts = st.tr := congrArg FS.tr h.hst
  have hrd : s.rd = st.rd := congrArg FS.rd h.hst
  have r0 := h.ok.rd0
  have r1 := h.ok.rdm
  have hsum := h.sum
  refine (get_any base g s id w m h.guard hm h0 ?_ ?_ ?_ ?_ h.vz ?_ ?_ ?_ ?_ ?_).mono ?_
  · rw [← txt_len h.guard.allow, h.hL]; exact hp
  · rw [h.hL]; exact hS
  · have := congrArg List.length h.ys
    rw [List.length_map] at this
    rw [this]; exact hyn
  · intro x hx
    have e1 := (h.guard.script.2 x hx).ok.1.1
    rw [← e1]
    exact hyz x.pl (by rw [← h.ys]; exact List.mem_map.2 ⟨x, hx, rfl⟩)
  · rw [htr]; exact hts
  · omega
  · omega
  · omega
  · omega
  · rintro e w' ⟨s', R, n, c, da, er, T⟩
    have hP := T.plain
    rw [h.hL, h.ys, h.hmf, h.sum, h.hst] at hP
    refine ⟨s', R, n, c, ?_, ?_, ⟨T.guard, T.L.trans h.hL, by rw [T.ys]; exact h.ys, T.mf.trans h.hmf, T.sum.trans h.sum, by rw [hP], T.shorts h.vz, h.ok.get id⟩, T.keep, T.M, T.al, T.own, T.tslen⟩
    · rw [hP]; exact T.ret
    · rw [hP]; exact T.bytes
def liveL : List ByteArray := [⟨#[97, 58, 47, 47, 98, 47, 42]⟩]
def liveP : AnP := ⟨⟨#[97, 58, 47, 47, 98, 47, 120]⟩, true, [120]⟩
def liveS : FS := ⟨[⟨#[97, 58, 47, 47, 98, 47, 120]⟩], [([120], 0)], 1⟩
theorem live_c : checkE liveL = 0 := by kernel_rfl
theorem live_1 : getF liveL (putA [liveP]) 1 9 fs0 ⟨#[97, 58, 47, 47, 98, 47, 120]⟩ = (liveS, ([120], 0)) := by kernel_rfl
theorem live_2 : getF liveL (putA [liveP]) 1 9 liveS ⟨#[97, 58, 47, 47, 98, 47, 121]⟩ = (liveS, ([], 11)) := by kernel_rfl
theorem live_3 : getF liveL (putA [liveP]) 1 9 liveS ⟨#[97, 58, 47, 47, 99, 47]⟩ = (liveS, ([], 10)) := by kernel_rfl
end Go.Proofs.YtkneafpmgbgalaaGreatDoor
/- The walk of narthexlaw24.live. Conditions: internal/bytealg.MaxLen holds an int. -/
namespace Go.Proofs.YtkneafpmgbgalaaGreatDoor
open Go.RowKit Go.Maps Go.Proofs.YtkneafpmgbgalaaGreatDoor.UriPlain
set_option linter.unusedVariables false
set_option linter.unusedSimpArgs false
theorem may_base {w : World} {base g : Nat} {s : GM} (h : GuardAt w base g s) {k : Nat} (hk : s.may g k) : base ≤ k := by
  rcases hk with rfl | rfl | hv
  · exact h.gbase
  · exact h.mbase
  · exact own_base h.trace hv
theorem may_away {w : World} {base g : Nat} {s : GM} (h : GuardAt w base g s) {k : Nat} {cs : Array Value} (hk : w.heap[k]? = some (.cells cs 5 (0, 0))) : ¬ s.may g k := by
  rintro (rfl | rfl | hv)
  · rw [h.blk] at hk; cases hk
  · exact mapV_not_cells h.map hk rfl
  · exact own_ne h.trace hk (by decide) hv
set_option maxRecDepth 100000 in
set_option maxHeartbeats 8000000 in
theorem live24_any (w : World) (m : Int) (hm : w.cell? ⟨0, 0, none⟩ = some (.int .i64 m)) : Calls Tryz.prog 8 #[] w (BelB true w) := by
  obtain ⟨W0, hW0⟩ : ∃ W0, W0 = w.alloc (.cells #[.string ⟨#[97, 58, 47, 47, 98, 47, 42]⟩] 9) := ⟨_, rfl⟩
  obtain ⟨W1, hW1⟩ : ∃ W1, W1 = (W0.alloc (.cells #[.int .u8 120] 5 (1, 2))).alloc (.cells #[.string ⟨#[97, 58, 47, 47, 98, 47, 120]⟩, .bool true, .slice (some ⟨W0.heap.size, 0, none⟩) 1 1] 51) := ⟨_, rfl⟩
  have hB0 : Below w.heap.size w W0 := by rw [hW0]; exact (Below.refl _ _).alloc (Nat.le_refl _) _
  have hB01 : Below W0.heap.size W0 W1 := by rw [hW1]; exact ((Below.refl _ _).alloc (Nat.le_refl _) _).alloc (by simp) _
  have hlt0 : 0 < w.heap.size := World.block_lt_of_cell? _ _ hm
  have hs0 : W0.heap.size = w.heap.size + 1 := by rw [hW0]; simp
  have hB1 : Below w.heap.size w W1 := hB0.trans (hB01.mono hB0.size)
  have hs1 : W1.heap.size = W0.heap.size + 2 := by rw [hW1]; simp
  have hat : AnsAt W1 (some ⟨W0.heap.size + 1, 0, none⟩) 1 [⟨⟨#[97, 58, 47, 47, 98, 47, 120]⟩, true, some ⟨W0.heap.size, 0, none⟩, 1, 1, [120]⟩] := by
    refine ⟨rfl, fun i hi => ?_⟩
    obtain rfl : i = 0 := by omega
    refine ⟨_, _, rfl, rfl, ⟨by rw [addGA, hs1]; show W0.heap.size + 1 < _; omega, ?_, ?_, ?_⟩, ⟨rfl, fun k hk => ?_⟩, Nat.le_refl _, by show (1 : Nat) ≤ _; decide⟩
    · rw [addGA, hW1]; simp
    · rw [addGA, hW1]; simp
    · rw [addGA, hW1]; simp
    · have hk1 : k < 1 := hk
      obtain rfl : k = 0 := by omega
      refine ⟨_, 120, rfl, rfl, by decide, by decide, by rw [hs1]; show W0.heap.size < _; omega, ?_⟩
      have hh : W1.heap[W0.heap.size]? = some (.cells #[.int .u8 120] 5 (1, 2)) := by
        rw [hW1]
        exact (((Below.refl (W0.heap.size + 1) _).alloc (by simp) _).block W0.heap.size (by omega)).trans (heap_alloc_new W0 _)
      rw [addGA]
      simp [World.cell?, hh]
  have hL : TsAt W1 (some ⟨w.heap.size, 0, none⟩) 1 liveL := by
    refine ⟨rfl, fun i hi => ?_⟩
    obtain rfl : i = 0 := by omega
    refine ⟨_, _, rfl, rfl, by show w.heap.size < _; omega, ?_⟩
    have hh : W1.heap[w.heap.size]? = some (.cells #[.string ⟨#[97, 58, 47, 47, 98, 47, 42]⟩] 9 (0, 0)) := (hB01.block w.heap.size (by omega)).trans (by rw [hW0]; exact heap_alloc_new w _)
    rw [addGA, Lib.cell_of_heap hh]; rfl
  have hS : Shorts liveL := fun x hx => by simp [liveL] at hx; subst hx; show (7 : Nat) ≤ _; decide
  have F := new_ok 0 0 1 9 0 0 (some ⟨w.heap.size, 0, none⟩) 1 1 liveL (some ⟨W0.heap.size + 1, 0, none⟩) 1 1 _ W1 m rfl rfl live_c (by decide) hL (by decide) hS hat (by intro x hx; simp at hx; subst hx; show (1 : Nat) ≤ 1048576; decide) ((hB1.cell (p := ⟨0, 0, none⟩) hlt0).trans hm)
  rw [show [An.mk ⟨#[97, 58, 47, 47, 98, 47, 120]⟩ true (some ⟨W0.heap.size, 0, none⟩) 1 1 [120]].map An.pl = [liveP] from rfl] at F
  unfold cfgV at F
  have F := Lib.hid F
  have kc := Lib.run_convert_bytes_const (P := Tryz.prog) W0 34 5 #[.int .u8 120] 1 1 Tryz.underlying34 Tryz.underlying5
  have HW0 := Lib.hid hW0
  have HW1 := Lib.hid hW1
  have HB1 := Lib.hid hB1
  have HM := Lib.hid hm
  have HL0 := Lib.hid hlt0
  have HS := Lib.hid hS
  have hw0 := hW0.symm
  clear hW0 hW1 hB1 hm hat hlt0 hs1 hs0 hB0 hB01 hL hS
  go_enter Tryz.func8, Tryz.ntmps8
  go_wp2_with fail
  rw [← HW1.out]
  refine F.out.mono ?_
  clear hw0 kc
  rintro e w2 ⟨g, s, T⟩
  obtain rfl := T.ret
  have GO := Lib.hid (GOk.new T (by decide) (by decide))
  have HY := Lib.hid T.keep
  have HX := Lib.hid (HB1.out.trans (T.keep.mono HB1.out.size))
  have DA : Hid (∀ a ∈ putA [liveP], a.da.length ≤ 1048576) := Lib.hid (fun a ha => by
    rcases putA_daF _ a ha with h | ⟨x, hx, h⟩
    · rw [h]; exact Nat.zero_le _
    · simp at hx; subst hx; rw [h]; show (1 : Nat) ≤ _; decide)
  clear T
  have C1 := Lib.hid (get_step W1.heap.size g liveL (putA [liveP]) 1 9 fs0 s ⟨#[97, 58, 47, 47, 98, 47, 120]⟩ w2 m GO.out (max0_below HM.out HX.out) (Nat.lt_of_lt_of_le HL0.out HB1.out.size) (by decide) HS.out (Nat.le_trans (putA_len _) (by decide)) DA.out (by decide) (by decide))
  go_wp2_with fail
  refine C1.out.mono ?_
  rintro e w3 ⟨s1, R1, n1, c1, T1⟩
  have hr := T1.ret
  rw [live_1] at hr
  obtain rfl := hr
  have hb := T1.bytes
  have ho := T1.ok
  rw [live_1] at hb ho
  have BY1 := Lib.hid hb
  have hK := T1.keep.below (B := W1.heap.size) (Nat.le_trans (HY.out.size) (Nat.le_refl _)) (fun j hj => may_base GO.out.guard hj)
  have HX := Lib.hid (HX.out.trans (hK.mono HB1.out.size))
  have HY := Lib.hid (HY.out.trans hK)
  have GO := Lib.hid ho
  clear hb ho hK T1
  have C2 := Lib.hid (get_step W1.heap.size g liveL (putA [liveP]) 1 9 liveS s1 ⟨#[97, 58, 47, 47, 98, 47, 121]⟩ w3 m GO.out (max0_below HM.out HX.out) (Nat.lt_of_lt_of_le HL0.out HB1.out.size) (by decide) HS.out (Nat.le_trans (putA_len _) (by decide)) DA.out (by decide) (by decide))
  go_wp2_with fail
  refine C2.out.mono ?_
  rintro e w4 ⟨s2, R2, n2, c2, T2⟩
  have hr := T2.ret
  rw [live_2] at hr
  obtain rfl := hr
  have hb := T2.bytes
  have ho := T2.ok
  rw [live_2] at hb ho
  have BY2 := Lib.hid hb
  have BY1 := Lib.hid (BY1.out.keep T2.keep (fun k cs hk => may_away GO.out.guard hk))
  have hK := T2.keep.below (B := W1.heap.size) (Nat.le_trans (HY.out.size) (Nat.le_refl _)) (fun j hj => may_base GO.out.guard hj)
  have HX := Lib.hid (HX.out.trans (hK.mono HB1.out.size))
  have HY := Lib.hid (HY.out.trans hK)
  have GO := Lib.hid ho
  clear hb ho hK T2
  have C3 := Lib.hid (get_step W1.heap.size g liveL (putA [liveP]) 1 9 liveS s2 ⟨#[97, 58, 47, 47, 99, 47]⟩ w4 m GO.out (max0_below HM.out HX.out) (Nat.lt_of_lt_of_le HL0.out HB1.out.size) (by decide) HS.out (Nat.le_trans (putA_len _) (by decide)) DA.out (by decide) (by decide))
  go_wp2_with fail
  refine C3.out.mono ?_
  rintro e w5 ⟨s3, R3, n3, c3, T3⟩
  have hr := T3.ret
  rw [live_3] at hr
  obtain rfl := hr
  have hb := T3.bytes
  have ho := T3.ok
  rw [live_3] at hb ho
  have BY3 := Lib.hid hb
  have BY1 := Lib.hid (BY1.out.keep T3.keep (fun k cs hk => may_away GO.out.guard hk))
  have hK := T3.keep.below (B := W1.heap.size) (Nat.le_trans (HY.out.size) (Nat.le_refl _)) (fun j hj => may_base GO.out.guard hj)
  have HX := Lib.hid (HX.out.trans (hK.mono HB1.out.size))
  have HY := Lib.hid (HY.out.trans hK)
  have GO := Lib.hid ho
  clear hb ho hK T3
  have hts : s3.ts = liveS.tr := congrArg FS.tr GO.out.hst
  have CT := trace_any W1.heap.size g s3 w5 GO.out.guard (Nat.lt_of_lt_of_le HL0.out HB1.out.size) (by rw [hts]; decide)
  rw [hts] at CT
  have CT := Lib.hid CT
  have k1 := convB w5 R1 n1 c1 [120] BY1.out.1
  rw [show strOfNums [120] = ⟨#[120]⟩ from rfl] at k1
  clear hts
  go_wp2_with fail
  refine CT.out.mono ?_
  rintro e w6 ⟨A6, c6, rfl, -, hB6⟩
  have HB6 := Lib.hid (HX.out.trans (hB6.mono HX.out.size))
  clear hB6
  go_wp2
  go_ret
  exact ⟨rfl, HB6.out⟩
end Go.Proofs.YtkneafpmgbgalaaGreatDoor
/- The configuration in memory. Conditions: internal/bytealg.MaxLen holds an int. -/
namespace Go.Proofs.YtkneafpmgbgalaaGreatDoor
open Go.RowKit Go.Maps Go.Proofs.YtkneafpmgbgalaaGreatDoor.UriPlain
set_option linter.unusedVariables false
set_option linter.unusedSimpArgs false
def CfgAt (k : Nat) (a b mf mb f g : Int) (B : Option Addr) (p d : Nat) (w : World) : Prop := k < w.heap.size ∧ w.cell? ⟨k, 0, none⟩ = some (.int .i64 a) ∧ w.cell? ⟨k, 1, none⟩ = some (.int .i64 b) ∧ w.cell? ⟨k, 2, none⟩ = some (.int .i64 f) ∧ w.cell? ⟨k, 3, none⟩ = some (.int .i64 g) ∧ w.cell? ⟨k, 4, none⟩ = some (.int .i64 mf) ∧ w.cell? ⟨k, 5, none⟩ = some (.int .i64 mb) ∧ w.cell? ⟨k, 6, none⟩ = some (.slice B p d)
theorem CfgAt.below {k : Nat} {a b mf mb f g : Int} {B : Option Addr} {p d n : Nat} {w w' : World} (h : CfgAt k a b mf mb f g B p d w) (hb : Below n w w') (hk : k < n) : CfgAt k a b mf mb f g B p d w' := by
  obtain ⟨h0, h1, h2, h3, h4, h5, h6, h7⟩ := h
  exact ⟨Nat.lt_of_lt_of_le h0 hb.size, (hb.cell (p := ⟨k, 0, none⟩) hk).trans h1, (hb.cell (p := ⟨k, 1, none⟩) hk).trans h2, (hb.cell (p := ⟨k, 2, none⟩) hk).trans h3, (hb.cell (p := ⟨k, 3, none⟩) hk).trans h4, (hb.cell (p := ⟨k, 4, none⟩) hk).trans h5, (hb.cell (p := ⟨k, 5, none⟩) hk).trans h6, (hb.cell (p := ⟨k, 6, none⟩) hk).trans h7⟩
theorem cfgBox7 (w : World) (a b mf mb f g : Int) (B : Option Addr) (p d : Nat) (t : TypeId) : ∃ W, w.alloc (.cells #[.int .i64 a, .int .i64 b, .int .i64 f, .int .i64 g, .int .i64 mf, .int .i64 mb, .slice B p d] t) = W ∧ Below w.heap.size w W ∧ CfgAt w.heap.size a b mf mb f g B p d W :=
  ⟨_, rfl, (Below.refl _ w).alloc (Nat.le_refl _) _, by simp, by simp, by simp, by simp, by simp, by simp, by simp, by simp⟩
theorem getF_tr (L : List ByteArray) (ps : List AnP) (mf mb : Int) (st : FS) (id : ByteArray) : (getF L ps mf mb st id).1.tr.length ≤ st.tr.length + 1 := by
  unfold getF
  split
  · exact Nat.le_succ _
  · split
    · exact Nat.le_succ _
    · split
      · exact Nat.le_succ _
      · simp
theorem check0 {mf mb : Int} {L : List ByteArray} {n : Nat} (h : 0 = checkF mf mb L n) : limB mf = true ∧ limB mb = true ∧ checkE L = 0 ∧ n ≤ 256 := by
  unfold checkF at h
  split at h
  · cases h
  · rename_i h1
    simp only [not_or, Bool.not_eq_false] at h1
    split at h
    · rename_i h2
      exact absurd h.symm h2
    · rename_i h2
      split at h
      · cases h
      · rename_i h3
        exact ⟨h1.1, h1.2, by simpa using h2, by omega⟩
end Go.Proofs.YtkneafpmgbgalaaGreatDoor
