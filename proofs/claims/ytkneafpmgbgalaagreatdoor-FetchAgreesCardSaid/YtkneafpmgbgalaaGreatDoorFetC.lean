/- Merged texts: FetUse, FetLaw, FetStep, FetLive, FetTwo, FetAgrees. -/
import Derived.Test.YtkneafpmgbgalaaGreatDoorFetNew
import Derived.Test.YtkneafpmgbgalaaGreatDoorOrLaw
import Derived.Test.YtkneafpmgbgalaaGreatDoorAllowFindsLaw
import Derived.Test.YtkneafpmgbgalaaGreatDoorShelf
import Derived.Test.YtkneafpmgbgalaaGreatDoorFetB
import Derived.Test.YtkneafpmgbgalaaGreatDoorAnsQ
import Derived.Test.YtkneafpmgbgalaaGreatDoorFetGet
import Derived.Lib.SlBytesConst
import Derived.Deep.Cut
import Derived.Test.YtkneafpmgbgalaaGreatDoorOrOnly
import Derived.Test.YtkneafpmgbgalaaGreatDoorTxtSame
import Derived.Deep.QuietTactic
import Derived.Deep.RegionHeld3
/- The contracts of fetch's Trace, Read, Left; of narthexlaw24.great; of narthexref24.Check. Conditions: internal/bytealg.MaxLen holds an int. -/
namespace Go.Proofs.YtkneafpmgbgalaaGreatDoor
open Go.RowKit Go.Maps Go.Proofs.YtkneafpmgbgalaaGreatDoor.UriPlain
set_option linter.unusedVariables false
set_option linter.unusedSimpArgs false
set_option maxRecDepth 100000 in
set_option maxHeartbeats 2000000 in
theorem trace_any (base g : Nat) (s : GM) (w : World) (hG : GuardAt w base g s) (h0 : 0 < base) (hts : s.ts.length ≤ 1048576) :
    Calls Tryz.prog 13 #[.pointer (some ⟨g, 0, none⟩)] w (TellRowF s.ts w) := by
  obtain ⟨mf, lf, rd, B, p, d, L, A, c, ys, v, M, nM, D, ts, vs⟩ := s
  dsimp only at hG hts
  obtain ⟨A5, c5, hv5, hc51, hc52⟩ := ownF_shape hG.trace
  dsimp only at hv5
  subst hv5
  have C := Lib.hid (cloneStrs_any A5 ts.length c5 ts w (TsAt.of_own hG.trace) hts)
  have hg0 : 0 < g := Nat.lt_of_lt_of_le h0 hG.gbase
  obtain ⟨u0, u1, u2, u3, u4, u5, u6⟩ := guard_cell hG.blk
  dsimp only at u5
  clear hG
  go_enter Tryz.func13, Tryz.ntmps13
  go_wp2_with fail
  refine C.out.mono ?_
  rintro e w1 ⟨R, c1, rfl, hown, hB⟩
  go_wp2
  go_ret
  exact ⟨R, c1, rfl, hown, hB⟩
theorem read_any (base g : Nat) (s : GM) (w : World) (hG : GuardAt w base g s) (h0 : 0 < base) : Calls Tryz.prog 14 #[.pointer (some ⟨g, 0, none⟩)] w (RetI s.rd w) := by
  have hg0 : 0 < g := Nat.lt_of_lt_of_le h0 hG.gbase
  obtain ⟨u0, u1, u2, u3, u4, u5, u6⟩ := guard_cell hG.blk
  generalize s.rd = rd at *
  clear hG u0 u1 u3 u4 u5 u6
  go_enter Tryz.func14, Tryz.ntmps14
  go_wp2
  go_ret
  exact ⟨rfl, rfl⟩
theorem left_any (base g : Nat) (s : GM) (w : World) (hG : GuardAt w base g s) (h0 : 0 < base) : Calls Tryz.prog 16 #[.pointer (some ⟨g, 0, none⟩)] w (RetI s.lf w) := by
  have hg0 : 0 < g := Nat.lt_of_lt_of_le h0 hG.gbase
  obtain ⟨u0, u1, u2, u3, u4, u5, u6⟩ := guard_cell hG.blk
  generalize s.lf = rd at *
  clear hG u0 u2 u3 u4 u5 u6
  go_enter Tryz.func16, Tryz.ntmps16
  go_wp2
  go_ret
  exact ⟨rfl, rfl⟩
def RetV (v : Value) (w : World) (e : Ending) (w' : World) : Prop := e = .returned v ∧ w = w'
theorem trace_nil (w : World) : Calls Tryz.prog 13 #[.pointer none] w (RetV (.slice none 0 0) w) := by
  go_enter Tryz.func13, Tryz.ntmps13
  go_wp2
  go_ret
  exact ⟨rfl, rfl⟩
theorem read_nil (w : World) : Calls Tryz.prog 14 #[.pointer none] w (RetI 0 w) := by
  go_enter Tryz.func14, Tryz.ntmps14
  go_wp2
  go_ret
  exact ⟨rfl, rfl⟩
theorem left_nil (w : World) : Calls Tryz.prog 16 #[.pointer none] w (RetI 0 w) := by
  go_enter Tryz.func16, Tryz.ntmps16
  go_wp2
  go_ret
  exact ⟨rfl, rfl⟩
theorem get_nil (s : ByteArray) (w : World) : Calls Tryz.prog 11 #[.pointer none, .string s] w (RetV (.tuple #[.slice none 0 0, .int .i64 1]) w) := by
  go_enter Tryz.func11, Tryz.ntmps11
  go_wp2
  go_ret2
  exact ⟨rfl, rfl⟩
def TellGreatF (mf mb : Int) (l : List An) (L ids : List ByteArray) (w : World) (e : Ending) (w' : World) : Prop := ∃ b : Bool, e = .returned (.bool b) ∧ Below w.heap.size w w' ∧ (b = false → l.length ≤ 260 ∧ (∀ x ∈ l, x.id.size ≤ 200 ∧ x.n ≤ 2000) ∧ L.length ≤ 80 ∧ (∀ x ∈ L, x.size ≤ 300) ∧ ids.length ≤ 30 ∧ ∀ x ∈ ids, x.size ≤ 200)
theorem snoc200 {l : List ByteArray} {k : Nat} {x : ByteArray} (h : ∀ y ∈ l.take k, y.size ≤ 200) (hx : l[k]? = some x) (hp : x.size ≤ 200) : ∀ y ∈ l.take (k + 1), y.size ≤ 200 := by
  intro y hy
  rw [List.take_add_one, hx] at hy
  rcases List.mem_append.1 hy with hy | hy
  · exact h y hy
  · obtain rfl : y = x := by simpa using hy
    exact hp
set_option maxRecDepth 100000 in
set_option maxHeartbeats 4000000 in
theorem great24_any (a b mf mb f g0 : Int) (B : Option Addr) (p d : Nat) (L : List ByteArray) (A : Option Addr) (n c : Nat) (l : List An) (I : Option Addr) (q r : Nat) (ids : List ByteArray) (w : World) (hL : TsAt w B p L) (hp : p ≤ 9223372036854775807) (hl : AnsAt w A n l) (hn : n ≤ 9223372036854775807) (hI : TsAt w I q ids) (hq : q ≤ 9223372036854775807) :
    Calls Tryz.prog 6 #[cfgV a b mf mb f g0 B p d, .slice A n c, .slice I q r] w (TellGreatF mf mb l L ids w) := by
  obtain rfl := hl.1
  obtain ⟨W, hW, hbW, hltW, c4, c5, c6⟩ := cfgBox w a b mf mb f g0 B p d 24
  have G1 := Lib.hid (great23_any A l.length c l W hn (hl.below hbW))
  have G2 := Lib.hid (great22_any B p d L W (hL.below hbW) hp)
  have HI := Lib.hid (hI.below hbW)
  have HL := Lib.hid hL
  have HBW := Lib.hid hbW
  obtain ⟨gb, hgb⟩ : ∃ gb, gb = greatA l := ⟨_, rfl⟩
  rw [← hgb] at G1
  have HGB := Lib.hid hgb
  unfold cfgCells at hW
  unfold cfgV
  clear hl hL hI hbW hgb
  go_enter Tryz.func6, Tryz.ntmps6
  go_wp2
  go_loopw [7] (fun v3 wr => ∃ k : Nat, k ≤ q ∧ k ≤ 60 ∧ v3 = .int .i64 k ∧ Hid (∀ y ∈ ids.take k, y.size ≤ 200) ∧ wr = W) (fun v3 _ => 100 - (intOf v3).toNat)
  case atStart => exact ⟨0, Nat.zero_le _, Nat.zero_le _, rfl, (by intro y hy; simp at hy), by first | rfl | trivial⟩
  case round =>
    obtain ⟨k, hk, hk2, rfl, HT, rfl⟩ := hrel
    have endG : ∀ (b1 b2 : Bool), (greatA l = b1) → (b1 = false → b2 = false → L.length ≤ 80 ∧ ∀ x ∈ L, x.size ≤ 300) → ¬ (k < q ∧ k < 60) → TellGreatF mf mb l L ids w (.returned (.bool (b1 || b2 || decide ((30 : Int) < (q : Int))))) wr := by
      intro b1 b2 h1 h2 h3
      refine ⟨_, rfl, HBW.out, fun h => ?_⟩
      simp only [Bool.or_eq_false_iff, decide_eq_false_iff_not] at h
      obtain ⟨⟨e1, e2⟩, e3⟩ := h
      subst e1 e2
      obtain ⟨x1, x2⟩ := greatA_no h1
      obtain ⟨x3, x4⟩ := h2 rfl rfl
      have hql := HI.out.1
      refine ⟨x1, x2, x3, x4, by omega, fun x hx => ?_⟩
      have := HT.out x
      rw [List.take_of_length_le (by omega)] at this
      exact this hx
    have HEND := Lib.hid endG
    clear endG
    by_cases hlt : k < q
    · by_cases h60 : k < 60
      · obtain ⟨a1, x, rfl, hx, _, g1⟩ := HI.out.2 k hlt
        have b0 : (0 : Int) ≤ (k : Int) := by omega
        have b1 : (k : Int) < (q : Int) := by omega
        have b2 : (k : Int) < 60 := by omega
        by_cases hz : 200 < x.size
        · have b3 : (200 : Int) < (x.size : Int) := by omega
          clear hx
          go_wp2
          go_ret
          exact ⟨true, rfl, HBW.out, fun h => by cases h⟩
        · have b3 : ¬ (200 : Int) < (x.size : Int) := by omega
          have HX := Lib.hid (snoc200 HT.out hx (by omega))
          clear hx
          go_wp2
          go_roundw
          case rel => exact ⟨k + 1, by omega, by omega, by go_num, HX, by first | rfl | trivial⟩
          case measure => simp [intOf]; omega
      · have b1 : (k : Int) < (q : Int) := by omega
        have b2 : ¬ (k : Int) < 60 := by omega
        go_wp2_with fail
        refine G1.out.mono ?_
        rintro e w1 ⟨rfl, rfl⟩
        cases gb with
        | true =>
          go_wp2
          go_ret
          exact ⟨true, rfl, HBW.out, fun h => by cases h⟩
        | false =>
          go_wp2_with fail
          refine G2.out.mono ?_
          rintro e w2 ⟨b2', rfl, rfl, hb⟩
          have HB2 := Lib.hid hb
          clear hb
          cases b2' with
          | true =>
            go_wp2
            go_ret
            exact ⟨true, rfl, HBW.out, fun h => by cases h⟩
          | false =>
            go_wp2
            go_ret
            have := HEND.out false false HGB.out.symm (fun _ _ => HB2.out (by first | rfl | trivial)) (by omega)
            simpa using this
    · have b1 : ¬ (k : Int) < (q : Int) := by omega
      go_wp2_with fail
      refine G1.out.mono ?_
      rintro e w1 ⟨rfl, rfl⟩
      cases gb with
      | true =>
        go_wp2
        go_ret
        exact ⟨true, rfl, HBW.out, fun h => by cases h⟩
      | false =>
        go_wp2_with fail
        refine G2.out.mono ?_
        rintro e w2 ⟨b2', rfl, rfl, hb⟩
        have HB2 := Lib.hid hb
        clear hb
        cases b2' with
        | true =>
          go_wp2
          go_ret
          exact ⟨true, rfl, HBW.out, fun h => by cases h⟩
        | false =>
          go_wp2
          go_ret
          have := HEND.out false false HGB.out.symm (fun _ _ => HB2.out (by first | rfl | trivial)) (by omega)
          simpa using this
def checkF (mf mb : Int) (L : List ByteArray) (n : Nat) : Int := if limB mf = false ∨ limB mb = false then 2 else if checkE L ≠ 0 then checkE L else if 256 < n then 13 else 0
set_option maxRecDepth 100000 in
set_option maxHeartbeats 4000000 in
theorem rcheck24_any (a b mf mb f g0 : Int) (B : Option Addr) (p d : Nat) (L : List ByteArray) (A : Option Addr) (n c : Nat) (w : World) (hL : TsAt w B p L) (hp : p ≤ 1048576) (hS : Shorts L) :
    Calls Tryz.prog 7 #[cfgV a b mf mb f g0 B p d, .slice A n c] w (TellI (checkF mf mb L n) w) := by
  obtain ⟨W, hW, hbW, hltW, c4, c5, c6⟩ := cfgBox w a b mf mb f g0 B p d 24
  have G2 := Lib.hid (rcheck22_any B p d L W (hL.below hbW) hp hS)
  have HBW := Lib.hid hbW
  obtain ⟨ce, hce⟩ : ∃ ce, ce = checkE L := ⟨_, rfl⟩
  rw [← hce] at G2
  have HCE := Lib.hid hce
  have e0 : ∀ {r : Int}, r = checkF mf mb L n → TellI (checkF mf mb L n) w (.returned (.int .i64 r)) W := fun h => ⟨by rw [h], hbW⟩
  have E0 := Lib.hid (fun r => @e0 r)
  have E2 := Lib.hid (fun (h : limB mf = false ∨ limB mb = false) => show (2 : Int) = checkF mf mb L n by unfold checkF; rw [if_pos h])
  have E3 := Lib.hid (fun (h1 : limB mf = true) (h2 : limB mb = true) => show checkF mf mb L n = (if ce ≠ 0 then ce else if 256 < n then 13 else 0) by unfold checkF; rw [if_neg (by simp [h1, h2]), hce])
  unfold cfgCells at hW
  unfold cfgV
  have LB := fun (w2 : World) (r : Int) (hb : Below W.heap.size W w2) (h : r = checkF mf mb L n) => (show TellI (checkF mf mb L n) w (.returned (.int .i64 r)) w2 from ⟨by rw [h], hbW.trans (hb.mono hbW.size)⟩)
  have LB := Lib.hid LB
  clear hL hbW hce e0
  have hlim : ∀ x : Int, limB x = true ↔ (0 ≤ x ∧ x ≤ 1099511627776) := fun x => by unfold limB; simp
  have hlim' : ∀ x : Int, limB x = false ↔ ¬ (0 ≤ x ∧ x ≤ 1099511627776) := fun x => by rw [← hlim x]; simp
  have HLIM := Lib.hid hlim
  have HLIM' := Lib.hid hlim'
  clear hlim hlim'
  go_enter Tryz.func7, Tryz.ntmps7
  by_cases k1 : mf < 0
  · go_wp2
    go_ret
    exact E0.out _ (E2.out (.inl ((HLIM'.out mf).2 (by omega))))
  by_cases k2 : 1099511627776 < mf
  · go_wp2
    go_ret
    exact E0.out _ (E2.out (.inl ((HLIM'.out mf).2 (by omega))))
  by_cases k3 : mb < 0
  · go_wp2
    go_ret
    exact E0.out _ (E2.out (.inr ((HLIM'.out mb).2 (by omega))))
  by_cases k4 : 1099511627776 < mb
  · go_wp2
    go_ret
    exact E0.out _ (E2.out (.inr ((HLIM'.out mb).2 (by omega))))
  have E3' := Lib.hid (E3.out ((HLIM.out mf).2 (by omega)) ((HLIM.out mb).2 (by omega)))
  go_wp2_with fail
  refine G2.out.mono ?_
  rintro e w2 ⟨rfl, hB2⟩
  have HB2 := Lib.hid hB2
  clear hB2
  by_cases k5 : ce = 0
  · by_cases k6 : 256 < n
    · have b6 : (256 : Int) < (n : Int) := by omega
      go_wp2
      go_ret
      exact LB.out _ _ HB2.out (by rw [E3'.out, if_neg (by simp [k5]), if_pos k6])
    · have b6 : ¬ (256 : Int) < (n : Int) := by omega
      go_wp2
      go_ret
      exact LB.out _ _ HB2.out (by rw [E3'.out, if_neg (by simp [k5]), if_neg k6])
  · go_wp2
    go_ret
    exact LB.out _ _ HB2.out (by rw [E3'.out, if_pos k5])
end Go.Proofs.YtkneafpmgbgalaaGreatDoor
/- What a guard tells of a script and of what of it is allowed: plain lists; no program in sight. -/
namespace Go.Proofs.YtkneafpmgbgalaaGreatDoor
open Go.Proofs.YtkneafpmgbgalaaGreatDoor.UriPlain
set_option linter.unusedVariables false
theorem find_congrF {α : Type} {p q : α → Bool} {l : List α} (h : ∀ a ∈ l, p a = q a) : l.find? p = l.find? q := by
  induction l with
  | nil => rfl
  | cons a l ih =>
    rw [List.find?_cons, List.find?_cons, h a (by simp), ih (fun b hb => h b (by simp [hb]))]
theorem found_only {L : List ByteArray} {ps : List AnP} {s : ByteArray} (h : findB L s.data.toList = true) : foundA (onlyA L ps) s = foundA ps s := by
  unfold foundA
  split
  · rw [putA_find, putA_find]
    congr 1
    unfold onlyA
    rw [List.find?_filter]
    refine find_congrF (fun a ha => ?_)
    cases ho : ofA (nrmA s) a with
    | false => simp
    | true =>
      unfold ofA at ho
      rw [Bool.and_eq_true] at ho
      have h1 := of_decide_eq_true ho.1
      have h2 := of_decide_eq_true ho.2
      have h3 : normU a.id.data.toList = normU s.data.toList := by
        have := congrArg (fun x : ByteArray => x.data.toList) h2
        simpa [nrmA, bS] using this
      have hk : keepA L a = true := by
        unfold keepA
        unfold findB at h ⊢
        rw [h3, show uriE a.id.data.toList = 0 from h1]
        rw [Bool.and_eq_true] at h
        rw [h.2]; rfl
      rw [hk]; rfl
  · rfl
theorem get_only {L : List ByteArray} {ps : List AnP} {mf mb : Int} {st : FS} {id : ByteArray} (hid : id.size ≤ 4000) (hps : ∀ a ∈ ps, a.id.size ≤ 4000) : getF L (putA (onlyA L ps)) mf mb st id = getF L (putA ps) mf mb st id := by
  cases hf : findB L id.data.toList with
  | false => rw [getF_no hf, getF_no hf]
  | true =>
    have hn : errA id = 0 := by
      unfold findB at hf
      rw [Bool.and_eq_true] at hf
      exact of_decide_eq_true hf.1
    have h2 : findB L (nrmA id).data.toList = true := by
      have hb : (nrmA id).data.toList = normU id.data.toList := by unfold nrmA bS; simp
      have h4 := norm_twice hn hid
      have h5 : normU (nrmA id).data.toList = normU id.data.toList := by
        have := congrArg (fun x : ByteArray => x.data.toList) h4.2
        simpa [nrmA, bS] using this
      unfold findB at hf ⊢
      rw [h5, show uriE (nrmA id).data.toList = 0 from h4.1]
      rw [Bool.and_eq_true] at hf
      rw [hf.2]; rfl
    have ha : askF (putA (onlyA L ps)) mb st.rd (nrmA id) = askF (putA ps) mb st.rd (nrmA id) := by
      unfold askF
      rw [found_put (onlyA L ps) (nrmA id) (fun a ha => hps a (List.mem_filter.1 ha).1), found_put ps (nrmA id) hps, found_only h2]
    cases hi : idxT st.tr (nrmA id) with
    | some i => rw [getF_old hf hi, getF_old hf hi]
    | none =>
      by_cases hm : mf ≤ st.tr.length
      · rw [getF_full hf hi hm, getF_full hf hi hm]
      · rw [getF_new hf hi hm, getF_new hf hi hm, ha]
end Go.Proofs.YtkneafpmgbgalaaGreatDoor
/- A guard with its state; a step; the walk of narthexlaw24.live. Conditions: internal/bytealg.MaxLen holds an int. -/
namespace Go.Proofs.YtkneafpmgbgalaaGreatDoor
open Go.RowKit Go.Maps Go.Proofs.YtkneafpmgbgalaaGreatDoor.UriPlain
set_option linter.unusedVariables false
set_option linter.unusedSimpArgs false
structure GOk (w : World) (base g : Nat) (L : List ByteArray) (ps : List AnP) (mf mb : Int) (st : FS) (s : GM) : Prop where
  guard : GuardAt w base g s
  hL : s.L = L
  ys : s.ys.map An.pl = ps
  hmf : s.mf = mf
  sum : s.lf + s.rd = mb
  hst : s.st = st
  vz : ∀ x ∈ s.vs, x.1.n ≤ 1048576
  ok : FOk L mf mb st
theorem GOk.below {w w' : World} {base g : Nat} {L : List ByteArray} {ps : List AnP} {mf mb : Int} {st : FS} {s : GM} (h : GOk w base g L ps mf mb st s) (hb : Below w.heap.size w w') : GOk w' base g L ps mf mb st s :=
  ⟨h.guard.below hb, h.hL, h.ys, h.hmf, h.sum, h.hst, h.vz, h.ok⟩
theorem GOk.new {w w' : World} {mf mb : Int} {L : List ByteArray} {ps : List AnP} {e : Ending} {g : Nat} {s : GM} (h : NewTold w mf mb L ps e w' g s) (h1 : 0 ≤ mf) (h2 : 0 ≤ mb) : GOk w' w.heap.size g L (putA ps) mf mb fs0 s :=
  ⟨h.guard, h.L, h.ys, h.mf, by rw [h.lf, h.rd]; omega, by unfold GM.st; rw [h.ts, h.vs, h.rd]; rfl, by rw [h.vs]; simp, FOk.start L mf mb h1 h2⟩
structure GStep (w : World) (base g : Nat) (L : List ByteArray) (ps : List AnP) (mf mb : Int) (st : FS) (s : GM) (id : ByteArray) (e : Ending) (w' : World) (s' : GM) (R : Option Addr) (n c : Nat) : Prop where
  ret : e = .returned (.tuple #[.slice R n c, .int .i64 (getF L ps mf mb st id).2.2])
  bytes : BOwn w' R n (getF L ps mf mb st id).2.1
  ok : GOk w' base g L ps mf mb (getF L ps mf mb st id).1 s'
  keep : KeepG w w' (s.may g)
  M : s'.M = s.M
  al : (Value.slice s'.B s'.p s'.d) = .slice s.B s.p s.d
  own : s'.v.ownBlock = s.v.ownBlock ∨ ∃ k, s'.v.ownBlock = some k ∧ w.heap.size ≤ k
  more : s'.ts.length ≤ s.ts.length + 1
def GStepE (base g : Nat) (L : List ByteArray) (ps : List AnP) (mf mb : Int) (st : FS) (s : GM) (id : ByteArray) (w : World) (e : Ending) (w' : World) : Prop := ∃ s' R n c, GStep w base g L ps mf mb st s id e w' s' R n c
theorem get_step (base g : Nat) (L : List ByteArray) (ps : List AnP) (mf mb : Int) (st : FS) (s : GM) (id : ByteArray) (w : World) (m : Int) (h : GOk w base g L ps mf mb st s) (hm : w.cell? ⟨0, 0, none⟩ = some (.int .i64 m)) (h0 : 0 < base)
    (hp : L.length ≤ 1048576) (hS : Shorts L) (hyn : ps.length ≤ 1048576) (hyz : ∀ a ∈ ps, a.da.length ≤ 1048576) (hts : st.tr.length ≤ 1048576) (hmb : mb ≤ 1099511627776) :
    Calls Tryz.prog 11 #[.pointer (some ⟨g, 0, none⟩), .string id] w (GStepE base g L ps mf mb st s id w) := by
  have htr : s.ts = st.tr := congrArg FS.tr h.hst
  have hrd : s.rd = st.rd := congrArg FS.rd h.hst
  have r0 := h.ok.rd0
  have r1 := h.ok.rdm
  have hsum := h.sum
  refine (get_any base g s id w m h.guard hm h0 ?_ ?_ ?_ ?_ h.vz ?_ ?_ ?_ ?_ ?_).mono ?_
  · rw [← txt_len h.guard.allow, h.hL]; exact hp
  · rw [h.hL]; exact hS
  · have := congrArg List.length h.ys
    rw [List.length_map] at this
    rw [this]; exact hyn
  · intro x hx
    have e1 := (h.guard.script.2 x hx).ok.1.1
    rw [← e1]
    exact hyz x.pl (by rw [← h.ys]; exact List.mem_map.2 ⟨x, hx, rfl⟩)
  · rw [htr]; exact hts
  · omega
  · omega
  · omega
  · omega
  · rintro e w' ⟨s', R, n, c, da, er, T⟩
    have hP := T.plain
    rw [h.hL, h.ys, h.hmf, h.sum, h.hst] at hP
    refine ⟨s', R, n, c, ?_, ?_, ⟨T.guard, T.L.trans h.hL, by rw [T.ys]; exact h.ys, T.mf.trans h.hmf, T.sum.trans h.sum, by rw [hP], T.shorts h.vz, h.ok.get id⟩, T.keep, T.M, T.al, T.own, T.tslen⟩
    · rw [hP]; exact T.ret
    · rw [hP]; exact T.bytes
def liveL : List ByteArray := [⟨#[97, 58, 47, 47, 98, 47, 42]⟩]
def liveP : AnP := ⟨⟨#[97, 58, 47, 47, 98, 47, 120]⟩, true, [120]⟩
def liveS : FS := ⟨[⟨#[97, 58, 47, 47, 98, 47, 120]⟩], [([120], 0)], 1⟩
theorem live_c : checkE liveL = 0 := by kernel_rfl
theorem live_1 : getF liveL (putA [liveP]) 1 9 fs0 ⟨#[97, 58, 47, 47, 98, 47, 120]⟩ = (liveS, ([120], 0)) := by kernel_rfl
theorem live_2 : getF liveL (putA [liveP]) 1 9 liveS ⟨#[97, 58, 47, 47, 98, 47, 121]⟩ = (liveS, ([], 11)) := by kernel_rfl
theorem live_3 : getF liveL (putA [liveP]) 1 9 liveS ⟨#[97, 58, 47, 47, 99, 47]⟩ = (liveS, ([], 10)) := by kernel_rfl
end Go.Proofs.YtkneafpmgbgalaaGreatDoor
/- The walk of narthexlaw24.live. Conditions: internal/bytealg.MaxLen holds an int. -/
namespace Go.Proofs.YtkneafpmgbgalaaGreatDoor
open Go.RowKit Go.Maps Go.Proofs.YtkneafpmgbgalaaGreatDoor.UriPlain
set_option linter.unusedVariables false
set_option linter.unusedSimpArgs false
theorem may_base {w : World} {base g : Nat} {s : GM} (h : GuardAt w base g s) {k : Nat} (hk : s.may g k) : base ≤ k := by
  rcases hk with rfl | rfl | hv
  · exact h.gbase
  · exact h.mbase
  · exact own_base h.trace hv
theorem may_away {w : World} {base g : Nat} {s : GM} (h : GuardAt w base g s) {k : Nat} {cs : Array Value} (hk : w.heap[k]? = some (.cells cs 5 (0, 0))) : ¬ s.may g k := by
  rintro (rfl | rfl | hv)
  · rw [h.blk] at hk; cases hk
  · exact mapV_not_cells h.map hk rfl
  · exact own_ne h.trace hk (by decide) hv
set_option maxRecDepth 100000 in
set_option maxHeartbeats 8000000 in
theorem live24_any (w : World) (m : Int) (hm : w.cell? ⟨0, 0, none⟩ = some (.int .i64 m)) : Calls Tryz.prog 8 #[] w (BelB true w) := by
  obtain ⟨W0, hW0⟩ : ∃ W0, W0 = w.alloc (.cells #[.string ⟨#[97, 58, 47, 47, 98, 47, 42]⟩] 9) := ⟨_, rfl⟩
  obtain ⟨W1, hW1⟩ : ∃ W1, W1 = (W0.alloc (.cells #[.int .u8 120] 5 (1, 2))).alloc (.cells #[.string ⟨#[97, 58, 47, 47, 98, 47, 120]⟩, .bool true, .slice (some ⟨W0.heap.size, 0, none⟩) 1 1] 51) := ⟨_, rfl⟩
  have hB0 : Below w.heap.size w W0 := by rw [hW0]; exact (Below.refl _ _).alloc (Nat.le_refl _) _
  have hB01 : Below W0.heap.size W0 W1 := by rw [hW1]; exact ((Below.refl _ _).alloc (Nat.le_refl _) _).alloc (by simp) _
  have hlt0 : 0 < w.heap.size := World.block_lt_of_cell? _ _ hm
  have hs0 : W0.heap.size = w.heap.size + 1 := by rw [hW0]; simp
  have hB1 : Below w.heap.size w W1 := hB0.trans (hB01.mono hB0.size)
  have hs1 : W1.heap.size = W0.heap.size + 2 := by rw [hW1]; simp
  have hat : AnsAt W1 (some ⟨W0.heap.size + 1, 0, none⟩) 1 [⟨⟨#[97, 58, 47, 47, 98, 47, 120]⟩, true, some ⟨W0.heap.size, 0, none⟩, 1, 1, [120]⟩] := by
    refine ⟨rfl, fun i hi => ?_⟩
    obtain rfl : i = 0 := by omega
    refine ⟨_, _, rfl, rfl, ⟨by rw [addGA, hs1]; show W0.heap.size + 1 < _; omega, ?_, ?_, ?_⟩, ⟨rfl, fun k hk => ?_⟩, Nat.le_refl _, by show (1 : Nat) ≤ _; decide⟩
    · rw [addGA, hW1]; simp
    · rw [addGA, hW1]; simp
    · rw [addGA, hW1]; simp
    · have hk1 : k < 1 := hk
      obtain rfl : k = 0 := by omega
      refine ⟨_, 120, rfl, rfl, by decide, by decide, by rw [hs1]; show W0.heap.size < _; omega, ?_⟩
      have hh : W1.heap[W0.heap.size]? = some (.cells #[.int .u8 120] 5 (1, 2)) := by
        rw [hW1]
        exact (((Below.refl (W0.heap.size + 1) _).alloc (by simp) _).block W0.heap.size (by omega)).trans (heap_alloc_new W0 _)
      rw [addGA]
      simp [World.cell?, hh]
  have hL : TsAt W1 (some ⟨w.heap.size, 0, none⟩) 1 liveL := by
    refine ⟨rfl, fun i hi => ?_⟩
    obtain rfl : i = 0 := by omega
    refine ⟨_, _, rfl, rfl, by show w.heap.size < _; omega, ?_⟩
    have hh : W1.heap[w.heap.size]? = some (.cells #[.string ⟨#[97, 58, 47, 47, 98, 47, 42]⟩] 9 (0, 0)) := (hB01.block w.heap.size (by omega)).trans (by rw [hW0]; exact heap_alloc_new w _)
    rw [addGA, Lib.cell_of_heap hh]; rfl
  have hS : Shorts liveL := fun x hx => by simp [liveL] at hx; subst hx; show (7 : Nat) ≤ _; decide
  have F := new_ok 0 0 1 9 0 0 (some ⟨w.heap.size, 0, none⟩) 1 1 liveL (some ⟨W0.heap.size + 1, 0, none⟩) 1 1 _ W1 m rfl rfl live_c (by decide) hL (by decide) hS hat (by intro x hx; simp at hx; subst hx; show (1 : Nat) ≤ 1048576; decide) ((hB1.cell (p := ⟨0, 0, none⟩) hlt0).trans hm)
  rw [show [An.mk ⟨#[97, 58, 47, 47, 98, 47, 120]⟩ true (some ⟨W0.heap.size, 0, none⟩) 1 1 [120]].map An.pl = [liveP] from rfl] at F
  unfold cfgV at F
  have F := Lib.hid F
  have kc := Lib.run_convert_bytes_const (P := Tryz.prog) W0 34 5 #[.int .u8 120] 1 1 Tryz.underlying34 Tryz.underlying5
  have HW0 := Lib.hid hW0
  have HW1 := Lib.hid hW1
  have HB1 := Lib.hid hB1
  have HM := Lib.hid hm
  have HL0 := Lib.hid hlt0
  have HS := Lib.hid hS
  have hw0 := hW0.symm
  clear hW0 hW1 hB1 hm hat hlt0 hs1 hs0 hB0 hB01 hL hS
  go_enter Tryz.func8, Tryz.ntmps8
  go_wp2_with fail
  rw [← HW1.out]
  refine F.out.mono ?_
  clear hw0 kc
  rintro e w2 ⟨g, s, T⟩
  obtain rfl := T.ret
  have GO := Lib.hid (GOk.new T (by decide) (by decide))
  have HY := Lib.hid T.keep
  have HX := Lib.hid (HB1.out.trans (T.keep.mono HB1.out.size))
  have DA : Hid (∀ a ∈ putA [liveP], a.da.length ≤ 1048576) := Lib.hid (fun a ha => by
    rcases putA_daF _ a ha with h | ⟨x, hx, h⟩
    · rw [h]; exact Nat.zero_le _
    · simp at hx; subst hx; rw [h]; show (1 : Nat) ≤ _; decide)
  clear T
  have C1 := Lib.hid (get_step W1.heap.size g liveL (putA [liveP]) 1 9 fs0 s ⟨#[97, 58, 47, 47, 98, 47, 120]⟩ w2 m GO.out (max0_below HM.out HX.out) (Nat.lt_of_lt_of_le HL0.out HB1.out.size) (by decide) HS.out (Nat.le_trans (putA_len _) (by decide)) DA.out (by decide) (by decide))
  go_wp2_with fail
  refine C1.out.mono ?_
  rintro e w3 ⟨s1, R1, n1, c1, T1⟩
  have hr := T1.ret
  rw [live_1] at hr
  obtain rfl := hr
  have hb := T1.bytes
  have ho := T1.ok
  rw [live_1] at hb ho
  have BY1 := Lib.hid hb
  have hK := T1.keep.below (B := W1.heap.size) (Nat.le_trans (HY.out.size) (Nat.le_refl _)) (fun j hj => may_base GO.out.guard hj)
  have HX := Lib.hid (HX.out.trans (hK.mono HB1.out.size))
  have HY := Lib.hid (HY.out.trans hK)
  have GO := Lib.hid ho
  clear hb ho hK T1
  have C2 := Lib.hid (get_step W1.heap.size g liveL (putA [liveP]) 1 9 liveS s1 ⟨#[97, 58, 47, 47, 98, 47, 121]⟩ w3 m GO.out (max0_below HM.out HX.out) (Nat.lt_of_lt_of_le HL0.out HB1.out.size) (by decide) HS.out (Nat.le_trans (putA_len _) (by decide)) DA.out (by decide) (by decide))
  go_wp2_with fail
  refine C2.out.mono ?_
  rintro e w4 ⟨s2, R2, n2, c2, T2⟩
  have hr := T2.ret
  rw [live_2] at hr
  obtain rfl := hr
  have hb := T2.bytes
  have ho := T2.ok
  rw [live_2] at hb ho
  have BY2 := Lib.hid hb
  have BY1 := Lib.hid (BY1.out.keep T2.keep (fun k cs hk => may_away GO.out.guard hk))
  have hK := T2.keep.below (B := W1.heap.size) (Nat.le_trans (HY.out.size) (Nat.le_refl _)) (fun j hj => may_base GO.out.guard hj)
  have HX := Lib.hid (HX.out.trans (hK.mono HB1.out.size))
  have HY := Lib.hid (HY.out.trans hK)
  have GO := Lib.hid ho
  clear hb ho hK T2
  have C3 := Lib.hid (get_step W1.heap.size g liveL (putA [liveP]) 1 9 liveS s2 ⟨#[97, 58, 47, 47, 99, 47]⟩ w4 m GO.out (max0_below HM.out HX.out) (Nat.lt_of_lt_of_le HL0.out HB1.out.size) (by decide) HS.out (Nat.le_trans (putA_len _) (by decide)) DA.out (by decide) (by decide))
  go_wp2_with fail
  refine C3.out.mono ?_
  rintro e w5 ⟨s3, R3, n3, c3, T3⟩
  have hr := T3.ret
  rw [live_3] at hr
  obtain rfl := hr
  have hb := T3.bytes
  have ho := T3.ok
  rw [live_3] at hb ho
  have BY3 := Lib.hid hb
  have BY1 := Lib.hid (BY1.out.keep T3.keep (fun k cs hk => may_away GO.out.guard hk))
  have hK := T3.keep.below (B := W1.heap.size) (Nat.le_trans (HY.out.size) (Nat.le_refl _)) (fun j hj => may_base GO.out.guard hj)
  have HX := Lib.hid (HX.out.trans (hK.mono HB1.out.size))
  have HY := Lib.hid (HY.out.trans hK)
  have GO := Lib.hid ho
  clear hb ho hK T3
  have hts : s3.ts = liveS.tr := congrArg FS.tr GO.out.hst
  have CT := trace_any W1.heap.size g s3 w5 GO.out.guard (Nat.lt_of_lt_of_le HL0.out HB1.out.size) (by rw [hts]; decide)
  rw [hts] at CT
  have CT := Lib.hid CT
  have k1 := convB w5 R1 n1 c1 [120] BY1.out.1
  rw [show strOfNums [120] = ⟨#[120]⟩ from rfl] at k1
  clear hts
  go_wp2_with fail
  refine CT.out.mono ?_
  rintro e w6 ⟨A6, c6, rfl, -, hB6⟩
  have HB6 := Lib.hid (HX.out.trans (hB6.mono HX.out.size))
  clear hB6
  go_wp2
  go_ret
  exact ⟨rfl, HB6.out⟩
end Go.Proofs.YtkneafpmgbgalaaGreatDoor
/- Two guards, each in blocks of its own. -/
namespace Go.Proofs.YtkneafpmgbgalaaGreatDoor
open Go.RowKit Go.Maps Go.Proofs.YtkneafpmgbgalaaGreatDoor.UriPlain
set_option linter.unusedVariables false
def Sep (g1 : Nat) (s1 : GM) (g2 : Nat) (s2 : GM) : Prop := g1 ≠ g2 ∧ s1.M ≠ s2.M ∧ ∀ b, s1.v.ownBlock = some b → s2.v.ownBlock ≠ some b ∧ (Value.slice s2.B s2.p s2.d).ownBlock ≠ some b
theorem GuardAt.beside {w w' : World} {b1 b2 g1 g2 : Nat} {s1 s2 : GM} (h : GuardAt w b2 g2 s2) (h1 : GuardAt w b1 g1 s1) (hk : KeepG w w' (s1.may g1)) (sep : Sep g1 s1 g2 s2) : GuardAt w' b2 g2 s2 := by
  have hu : ∀ (k : Nat) (ds : Array Value), w.heap[k]? = some (.cells ds 5 (0, 0)) → w'.heap[k]? = some (.cells ds 5 (0, 0)) := fun k ds hd => (hk.block k (Array.getElem?_eq_some_iff.1 hd).1 (may_away h1 hd)).trans hd
  refine ⟨(hk.block g2 (Array.getElem?_eq_some_iff.1 h.blk).1 ?_).trans h.blk, h.gbase, own_same h.allow (fun b hb => ?_), ⟨own_same h.script.1 (fun b hb => ?_), fun y hy => ?_⟩, own_same h.trace (fun b hb => ?_), h.apart, mapV_same h.map (hk.block _ h.map.lt ?_), h.mbase, h.mnum, h.seen, h.vlen, fun y hy => (h.fresh y hy).keep hu⟩
  · rintro (e | e | hv)
    · exact sep.1 e.symm
    · exact mapV_not_cells h1.map h.blk e.symm
    · exact own_ne h1.trace h.blk (by decide) hv
  · refine hk.block b (own_blk h.allow hb).1 ?_
    rintro (e | e | hv)
    · exact own_ne h.allow h1.blk (by decide) (e ▸ hb)
    · exact own_not_map h.allow h1.map (e ▸ hb)
    · exact (sep.2.2 b hv).2 hb
  · obtain ⟨hlt, ds, hd⟩ := own_blk h.script.1 hb
    refine hk.block b hlt ?_
    rintro (e | e | hv)
    · exact own_ne h.script.1 h1.blk (by decide) (e ▸ hb)
    · exact own_not_map h.script.1 h1.map (e ▸ hb)
    · exact own_ne h1.trace hd (by decide) hv
  · obtain ⟨j, e1, e2, e3, r⟩ := h.script.2 y hy
    exact ⟨j, e1, e2, hu _ _ e3, r⟩
  · refine hk.block b (own_blk h.trace hb).1 ?_
    rintro (e | e | hv)
    · exact own_ne h.trace h1.blk (by decide) (e ▸ hb)
    · exact own_not_map h.trace h1.map (e ▸ hb)
    · exact (sep.2.2 b hv).1 hb
  · rintro (e | e | hv)
    · exact mapV_not_cells h.map h1.blk e
    · exact sep.2.1 e.symm
    · exact own_not_map h1.trace h.map hv
theorem GOk.beside {w w' : World} {b1 b2 g1 g2 : Nat} {s1 s2 : GM} {L : List ByteArray} {ps : List AnP} {mf mb : Int} {st : FS} (h : GOk w b2 g2 L ps mf mb st s2) (h1 : GuardAt w b1 g1 s1) (hk : KeepG w w' (s1.may g1)) (sep : Sep g1 s1 g2 s2) : GOk w' b2 g2 L ps mf mb st s2 :=
  ⟨h.guard.beside h1 hk sep, h.hL, h.ys, h.hmf, h.sum, h.hst, h.vz, h.ok⟩
theorem Sep.step {w : World} {b2 g1 g2 : Nat} {s1 s1' s2 : GM} (sep : Sep g1 s1 g2 s2) (h : GuardAt w b2 g2 s2) (hM : s1'.M = s1.M) (ho : s1'.v.ownBlock = s1.v.ownBlock ∨ ∃ k, s1'.v.ownBlock = some k ∧ w.heap.size ≤ k) : Sep g1 s1' g2 s2 := by
  refine ⟨sep.1, by rw [hM]; exact sep.2.1, fun b hb => ?_⟩
  rcases ho with ho | ⟨k, hk, hlt⟩
  · exact sep.2.2 b (ho ▸ hb)
  · rw [hk] at hb
    injection hb with hb
    subst hb
    exact ⟨fun e => by have := (own_blk h.trace e).1; omega, fun e => by have := (own_blk h.allow e).1; omega⟩
theorem Sep.step' {w : World} {b2 g1 g2 : Nat} {s1 s1' s2 : GM} (sep : Sep g2 s2 g1 s1) (h : GuardAt w b2 g2 s2) (hM : s1'.M = s1.M) (hal : (Value.slice s1'.B s1'.p s1'.d) = .slice s1.B s1.p s1.d) (ho : s1'.v.ownBlock = s1.v.ownBlock ∨ ∃ k, s1'.v.ownBlock = some k ∧ w.heap.size ≤ k) : Sep g2 s2 g1 s1' := by
  refine ⟨sep.1, by rw [hM]; exact sep.2.1, fun b hb => ⟨?_, by rw [hal]; exact (sep.2.2 b hb).2⟩⟩
  rcases ho with ho | ⟨k, hk, hlt⟩
  · rw [ho]; exact (sep.2.2 b hb).1
  · intro e
    rw [hk] at e
    injection e with e
    have := (own_blk h.trace hb).1
    omega
theorem Sep.fresh {w w' : World} {b1 g1 g2 : Nat} {s1 s2 : GM} (h1 : GuardAt w b1 g1 s1) (h2 : GuardAt w' w.heap.size g2 s2) : Sep g1 s1 g2 s2 ∧ Sep g2 s2 g1 s1 := by
  have e1 : g1 < w.heap.size := (Array.getElem?_eq_some_iff.1 h1.blk).1
  have e2 := h2.gbase
  have e3 := h1.map.lt
  have e4 := h2.mbase
  refine ⟨⟨by omega, by omega, fun b hb => ⟨fun e => ?_, fun e => ?_⟩⟩, ⟨by omega, by omega, fun b hb => ⟨fun e => ?_, fun e => ?_⟩⟩⟩
  · have := (own_blk h1.trace hb).1; have := own_base h2.trace e; omega
  · have := (own_blk h1.trace hb).1; have := own_base h2.allow e; omega
  · have := own_base h2.trace hb; have := (own_blk h1.trace e).1; omega
  · have := own_base h2.trace hb; have := (own_blk h1.allow e).1; omega
end Go.Proofs.YtkneafpmgbgalaaGreatDoor
/- The walk of FetchAgrees. Conditions: internal/bytealg.MaxLen holds an int. -/
namespace Go.Proofs.YtkneafpmgbgalaaGreatDoor
open Go.RowKit Go.Maps Go.Proofs.YtkneafpmgbgalaaGreatDoor.UriPlain
set_option linter.unusedVariables false
set_option linter.unusedSimpArgs false
def CfgAt (k : Nat) (a b mf mb f g : Int) (B : Option Addr) (p d : Nat) (w : World) : Prop := k < w.heap.size ∧ w.cell? ⟨k, 0, none⟩ = some (.int .i64 a) ∧ w.cell? ⟨k, 1, none⟩ = some (.int .i64 b) ∧ w.cell? ⟨k, 2, none⟩ = some (.int .i64 f) ∧ w.cell? ⟨k, 3, none⟩ = some (.int .i64 g) ∧ w.cell? ⟨k, 4, none⟩ = some (.int .i64 mf) ∧ w.cell? ⟨k, 5, none⟩ = some (.int .i64 mb) ∧ w.cell? ⟨k, 6, none⟩ = some (.slice B p d)
theorem CfgAt.below {k : Nat} {a b mf mb f g : Int} {B : Option Addr} {p d n : Nat} {w w' : World} (h : CfgAt k a b mf mb f g B p d w) (hb : Below n w w') (hk : k < n) : CfgAt k a b mf mb f g B p d w' := by
  obtain ⟨h0, h1, h2, h3, h4, h5, h6, h7⟩ := h
  exact ⟨Nat.lt_of_lt_of_le h0 hb.size, (hb.cell (p := ⟨k, 0, none⟩) hk).trans h1, (hb.cell (p := ⟨k, 1, none⟩) hk).trans h2, (hb.cell (p := ⟨k, 2, none⟩) hk).trans h3, (hb.cell (p := ⟨k, 3, none⟩) hk).trans h4, (hb.cell (p := ⟨k, 4, none⟩) hk).trans h5, (hb.cell (p := ⟨k, 5, none⟩) hk).trans h6, (hb.cell (p := ⟨k, 6, none⟩) hk).trans h7⟩
theorem cfgBox7 (w : World) (a b mf mb f g : Int) (B : Option Addr) (p d : Nat) (t : TypeId) : ∃ W, w.alloc (.cells #[.int .i64 a, .int .i64 b, .int .i64 f, .int .i64 g, .int .i64 mf, .int .i64 mb, .slice B p d] t) = W ∧ Below w.heap.size w W ∧ CfgAt w.heap.size a b mf mb f g B p d W :=
  ⟨_, rfl, (Below.refl _ w).alloc (Nat.le_refl _) _, by simp, by simp, by simp, by simp, by simp, by simp, by simp, by simp⟩
theorem getF_tr (L : List ByteArray) (ps : List AnP) (mf mb : Int) (st : FS) (id : ByteArray) : (getF L ps mf mb st id).1.tr.length ≤ st.tr.length + 1 := by
  unfold getF
  split
  · exact Nat.le_succ _
  · split
    · exact Nat.le_succ _
    · split
      · exact Nat.le_succ _
      · simp
theorem check0 {mf mb : Int} {L : List ByteArray} {n : Nat} (h : 0 = checkF mf mb L n) : limB mf = true ∧ limB mb = true ∧ checkE L = 0 ∧ n ≤ 256 := by
  unfold checkF at h
  split at h
  · cases h
  · rename_i h1
    simp only [not_or, Bool.not_eq_false] at h1
    split at h
    · rename_i h2
      exact absurd h.symm h2
    · rename_i h2
      split at h
      · cases h
      · rename_i h3
        exact ⟨h1.1, h1.2, by simpa using h2, by omega⟩
set_option maxRecDepth 100000 in
set_option maxHeartbeats 8000000 in
theorem fetchAgrees_any (a b mf mb f g0 : Int) (B : Option Addr) (p d : Nat) (L : List ByteArray) (A : Option Addr) (n c : Nat) (l : List An) (I : Option Addr) (q r : Nat) (ids : List ByteArray) (w : World) (m : Int) (hL : TsAt w B p L) (hp : p ≤ 9223372036854775807) (hl : AnsAt w A n l) (hn : n ≤ 9223372036854775807) (hI : TsAt w I q ids) (hq : q ≤ 9223372036854775807) (hm : w.cell? ⟨0, 0, none⟩ = some (.int .i64 m)) :
    Calls Tryz.prog 3 #[cfgV a b mf mb f g0 B p d, .slice A n c, .slice I q r] w (BelB true w) := by
  obtain rfl := hl.1
  obtain ⟨W, hW, hbW, hC⟩ := cfgBox7 w a b mf mb f g0 B p d 24
  have CG := Lib.hid (great24_any a b mf mb f g0 B p d L A l.length c l I q r ids W (hL.below hbW) hp (hl.below hbW) hn (hI.below hbW) hq)
  have CL := Lib.hid (fun V (hb : Below w.heap.size w V) => live24_any V m (max0_below hm hb))
  have HL := Lib.hid hL
  have HA := Lib.hid hl
  have HI := Lib.hid hI
  have HM := Lib.hid hm
  have HBW := Lib.hid hbW
  have HC := Lib.hid hC
  obtain ⟨z0, z1, z2, z3, z4, z5, z6, z7⟩ := hC
  unfold cfgV at CG
  unfold cfgV
  have HL0 := Lib.hid (World.block_lt_of_cell? _ _ hm)
  clear hL hl hI hm hbW
  go_enter Tryz.func3, Tryz.ntmps3
  go_wp2_with fail
  refine CG.out.mono ?_
  clear hW
  rintro e w1 ⟨bg, rfl, hB1, hbg⟩
  have HB1 := Lib.hid (HBW.out.trans (hB1.mono HBW.out.size))
  obtain ⟨HC1⟩ : Nonempty (Hid (CfgAt w.heap.size a b mf mb f g0 B p d w1)) := ⟨Lib.hid (HC.out.below hB1 z0)⟩
  cases bg with
  | true =>
    clear hbg hB1
    go_wp2_with fail
    refine (CL.out _ HB1.out).mono ?_
    rintro e w2 ⟨rfl, hB2⟩
    go_wp2
    go_ret
    exact ⟨rfl, HB1.out.trans (hB2.mono HB1.out.size)⟩
  | false =>
    obtain ⟨q1, q2, q3, q4, q5, q6⟩ := hbg rfl
    have hp80 : p ≤ 80 := by rw [← HL.out.1]; exact q3
    have hS : Shorts L := fun x hx => Nat.le_trans (q4 x hx) (by decide)
    have CC := rcheck24_any a b mf mb f g0 B p d L A l.length c w1 (HL.out.below HB1.out) (by omega) hS
    unfold cfgV at CC
    obtain ⟨ck, hck⟩ : ∃ ck, ck = checkF mf mb L l.length := ⟨_, rfl⟩
    rw [← hck] at CC
    have CC := Lib.hid CC
    have HCK := Lib.hid hck
    have HS := Lib.hid hS
    have Q := Lib.hid (And.intro q1 (And.intro q2 (And.intro q5 q6)))
    clear z0 z1 z2 z3 z4 z5 z6 z7 hbg hB1 q1 q2 q3 q4 q5 q6 hck hS CG
    obtain ⟨z0, z1, z2, z3, z4, z5, z6, z7⟩ := HC1.out
    go_wp2_with fail
    refine CC.out.mono ?_
    rintro e w2 ⟨rfl, hB2⟩
    have HB2 := Lib.hid (HB1.out.trans (hB2.mono HB1.out.size))
    have HC2 := Lib.hid (HC1.out.below hB2 z0)
    clear z0 z1 z2 z3 z4 z5 z6 z7 hB2 CC
    by_cases hck : ck = 0
    · subst hck
      obtain ⟨v1, v2, v3, v4⟩ := check0 HCK.out
      have hx20 : ∀ x ∈ l, x.n ≤ 1048576 := fun x hx => Nat.le_trans (Q.out.2.1 x hx).2 (by decide)
      have hm0 : 0 ≤ mf ∧ mf ≤ 1099511627776 := by unfold limB at v1; simpa using v1
      have hb0 : 0 ≤ mb ∧ mb ≤ 1099511627776 := by unfold limB at v2; simpa using v2
      have HX20 := Lib.hid hx20
      have N1 := new_ok a b mf mb f g0 B p d L A l.length c l w2 m v1 v2 v3 v4 (HL.out.below HB2.out) (by omega) HS.out (HA.out.below HB2.out) hx20 (max0_below HM.out HB2.out)
      unfold cfgV at N1
      have N1 := Lib.hid N1
      have N2 : Hid (∀ (V : World) (A2 : Option Addr) (c2 : Nat) (ys : List An), Below w.heap.size w V → AnsAt V A2 ys.length ys → ys.map An.pl = onlyA L (l.map An.pl) → _) := Lib.hid (fun V A2 c2 ys hb hat hys => new_ok a b mf mb f g0 B p d L A2 ys.length c2 ys V m v1 v2 v3 (by
          have h := congrArg List.length hys
          have h2 := onlyA_len L (l.map An.pl)
          rw [List.length_map] at h h2
          omega) (HL.out.below hb) (by omega) HS.out hat (by
          intro x hx
          have h1 := (hat.ok x hx).1.1
          have h2 : x.pl ∈ onlyA L (l.map An.pl) := by rw [← hys]; exact List.mem_map.2 ⟨x, hx, rfl⟩
          obtain ⟨x', hx', e⟩ := List.mem_map.1 (List.mem_filter.1 h2).1
          have h3 := (HA.out.ok x' hx').1.1
          have h4 : x'.da = x.da := congrArg AnP.da e
          rw [← h1, ← h4, h3]; exact HX20.out x' hx') (max0_below HM.out hb))
      unfold cfgV at N2
      have O1 := Lib.hid (fun V (hb : Below w.heap.size w V) => ronly_any A l.length c l B p d L V (HA.out.below hb) (by omega) (HL.out.below hb) (by omega) HS.out)
      obtain ⟨z0, z1, z2, z3, z4, z5, z6, z7⟩ := HC2.out
      have V := Lib.hid (And.intro v1 (And.intro v2 (And.intro v3 v4)))
      have MB := Lib.hid (And.intro hm0 hb0)
      clear v1 v2 v3 v4 hx20 hm0 hb0 HCK
      go_wp2_with fail
      refine N1.out.mono ?_
      rintro e w3 ⟨g, s, T⟩
      obtain rfl := T.ret
      have GO := Lib.hid (GOk.new T MB.out.1.1 MB.out.2.1)
      have HB3 := Lib.hid (HB2.out.trans (T.keep.mono HB2.out.size))
      have HC3 := Lib.hid (HC2.out.below T.keep z0)
      clear z0 z1 z2 z3 z4 z5 z6 z7 T N1
      have hcc := HC3.out
      go_wp2_with fail
      go_region_held3 (fun w' => w.heap.size < w'.heap.size ∧ w'.cell? ⟨w.heap.size, 0, none⟩ = some (.int .i64 a) ∧ w'.cell? ⟨w.heap.size, 1, none⟩ = some (.int .i64 b) ∧ w'.cell? ⟨w.heap.size, 2, none⟩ = some (.int .i64 f) ∧ w'.cell? ⟨w.heap.size, 3, none⟩ = some (.int .i64 g0) ∧ w'.cell? ⟨w.heap.size, 4, none⟩ = some (.int .i64 mf) ∧ w'.cell? ⟨w.heap.size, 5, none⟩ = some (.int .i64 mb) ∧ w'.cell? ⟨w.heap.size, 6, none⟩ = some (.slice B p d))
        (exact hcc)
        (first
        | (go_at_call 10
           refine (O1.out _ (HB3.out.trans (below_drewF _ _))).mono ?_
           rintro e w4 ⟨A2, c2, ys, rfl, hys, -, -, hat, hB4⟩
           have hb34 := (below_drewF w3.heap.size w3).trans hB4
           have HB4 := Lib.hid (HB3.out.trans (hb34.mono HB3.out.size))
           have GO4 := Lib.hid (GO.out.below hb34)
           have HYS := Lib.hid hys
           have N3 := Lib.hid (N2.out w4 A2 c2 ys HB4.out hat hys)
           have HC4 := Lib.hid (HC3.out.below hb34 HC3.out.1)
           have hcc := HC4.out
           clear hb34 hB4 hat hys)
        | (go_at_call 9
           refine N3.out.mono ?_
           rintro e w5 ⟨g2, s2, T2⟩
           obtain rfl := T2.ret
           have HB5 := Lib.hid (HB4.out.trans (T2.keep.mono HB4.out.size))
           have HC5 := Lib.hid (HC4.out.below T2.keep HC4.out.1)
           have SEP := Lib.hid (Sep.fresh GO4.out.guard T2.guard)
           have GO5 := Lib.hid (GO4.out.below T2.keep)
           have GQ0 := GOk.new T2 MB.out.1.1 MB.out.2.1
           rw [HYS.out] at GQ0
           have GQ5 := Lib.hid GQ0
           have hcc := HC5.out
           clear GQ0 T2))
      have hg1 : 0 < g := Nat.lt_of_lt_of_le (Nat.lt_of_lt_of_le HL0.out HB2.out.size) GO5.out.guard.gbase
      have hg2 : 0 < g2 := Nat.lt_of_lt_of_le (Nat.lt_of_lt_of_le HL0.out HB4.out.size) GQ5.out.guard.gbase
      obtain ⟨P1, hP1⟩ : ∃ P1, P1 = putA (l.map An.pl) := ⟨_, rfl⟩
      obtain ⟨P2, hP2⟩ : ∃ P2, P2 = putA (onlyA L (l.map An.pl)) := ⟨_, rfl⟩
      rw [← hP1] at GO5
      rw [← hP2] at GQ5
      have hsm : ∀ a ∈ l.map An.pl, a.id.size ≤ 4000 ∧ a.da.length ≤ 1048576 := by
        intro a ha
        obtain ⟨x, hx, rfl⟩ := List.mem_map.1 ha
        have h1 := (HA.out.ok x hx).1.1
        exact ⟨Nat.le_trans (Q.out.2.1 x hx).1 (by decide), by show x.da.length ≤ _; rw [h1]; exact HX20.out x hx⟩
      have ONLY : Hid (∀ (st : FS) (id : ByteArray), id.size ≤ 4000 → getF L P2 mf mb st id = getF L P1 mf mb st id) := Lib.hid (fun st id h => by rw [hP1, hP2]; exact get_only h (fun a ha => (hsm a ha).1))
      have D1 : Hid (P1.length ≤ 1048576 ∧ ∀ a ∈ P1, a.da.length ≤ 1048576) := Lib.hid (by
        rw [hP1]
        refine ⟨Nat.le_trans (putA_len _) (by rw [List.length_map]; have := V.out.2.2.2; omega), fun a ha => ?_⟩
        rcases putA_daF _ a ha with h | ⟨x, hx, h⟩
        · rw [h]; exact Nat.zero_le _
        · rw [h]; exact (hsm x hx).2)
      have D2 : Hid (P2.length ≤ 1048576 ∧ ∀ a ∈ P2, a.da.length ≤ 1048576) := Lib.hid (by
        rw [hP2]
        refine ⟨Nat.le_trans (putA_len _) (Nat.le_trans (onlyA_len _ _) (by rw [List.length_map]; have := V.out.2.2.2; omega)), fun a ha => ?_⟩
        rcases putA_daF _ a ha with h | ⟨x, hx, h⟩
        · rw [h]; exact Nat.zero_le _
        · rw [h]; exact (hsm x (List.mem_filter.1 hx).1).2)
      have hlp : L.length ≤ 1048576 := by rw [HL.out.1]; omega
      have hb2 : 0 < w2.heap.size := Nat.lt_of_lt_of_le HL0.out HB2.out.size
      have hb4 : 0 < w4.heap.size := Nat.lt_of_lt_of_le HL0.out HB4.out.size
      clear hsm hP1 hP2 hcc
      go_wp2
      go_loopw [11, 12, 13, 14, 15] (fun v11 v12 v13 v14 v15 wr => ∃ (k : Nat) (st : FS) (s1 t1 : GM), k ≤ q ∧ v11 = .int .i64 k ∧ Hid (GOk wr w2.heap.size g L P1 mf mb st s1) ∧ Hid (GOk wr w4.heap.size g2 L P2 mf mb st t1) ∧ Hid (Sep g s1 g2 t1 ∧ Sep g2 t1 g s1) ∧ Hid (st.tr.length ≤ k) ∧ Hid (Below w.heap.size w wr)) (fun v11 _ _ _ _ _ => q - (intOf v11).toNat)
      case atStart => exact ⟨0, fs0, s, s2, Nat.zero_le _, rfl, GO5, GQ5, SEP, Lib.hid (Nat.le_refl _), HB5⟩
      case round =>
        obtain ⟨k, st, s1, t1, hk, rfl, HG, HH, HSP, HTR, HB⟩ := hrel
        by_cases hlt : k < q
        · obtain ⟨a1, x, rfl, hx, hxb, g1⟩ := HI.out.2 k hlt
          have b0 : (0 : Int) ≤ (k : Int) := by omega
          have b1 : (k : Int) < (q : Int) := by omega
          have hxs : x.size ≤ 4000 := Nat.le_trans (Q.out.2.2.2 x (List.mem_of_getElem? hx)) (by decide)
          have hq30 := Q.out.2.2.1
          have hiq := HI.out.1
          have htl := HTR.out
          have C1 := Lib.hid (get_step w2.heap.size g L P1 mf mb st s1 x wr m HG.out (max0_below HM.out HB.out) hb2 hlp HS.out D1.out.1 D1.out.2 (by omega) MB.out.2.2)
          have gx := (HB.out.cell (p := a1.add k) (by rw [addBlockT]; exact hxb)).trans g1
          clear hx
          go_wp2_with fail
          refine C1.out.mono ?_
          rintro e w6 ⟨s1', R1, n1, c1, T1⟩
          obtain rfl := T1.ret
          have BY1 := Lib.hid T1.bytes
          have HG6 := Lib.hid T1.ok
          have HH6 := Lib.hid (HH.out.beside HG.out.guard T1.keep HSP.out.1)
          have SP6 := Lib.hid (And.intro (HSP.out.1.step HH.out.guard T1.M T1.own) (HSP.out.2.step' HH.out.guard T1.M T1.al T1.own))
          have HB6 := Lib.hid (HB.out.trans (T1.keep.below HB.out.size (fun j hj => Nat.le_trans HB2.out.size (may_base HG.out.guard hj))))
          have gx6 := (HB6.out.cell (p := a1.add k) (by rw [addBlockT]; exact hxb)).trans g1
          have C2 := get_step w4.heap.size g2 L P2 mf mb st t1 x w6 m HH6.out (max0_below HM.out HB6.out) hb4 hlp HS.out D2.out.1 D2.out.2 (by omega) MB.out.2.2
          have ONX := ONLY.out st x hxs
          have C2 := Lib.hid C2
          have STN : Hid ((getF L P1 mf mb st x).1.tr.length ≤ k + 1) := Lib.hid (Nat.le_trans (getF_tr L P1 mf mb st x) (by omega))
          obtain ⟨⟨st', da, er⟩, hg⟩ : ∃ y, y = getF L P1 mf mb st x := ⟨_, rfl⟩
          rw [← hg] at BY1 HG6 STN ONX
          rw [← hg]
          have ONX := Lib.hid ONX
          clear T1 C1 hg gx HG HH HSP HB
          go_wp2_with fail
          refine C2.out.mono ?_
          rintro e w7 ⟨t1', R2, n2, c2', T2⟩
          have hr2 := T2.ret
          have BY2 := T2.bytes
          have HH7 := T2.ok
          rw [ONX.out] at hr2 BY2 HH7
          obtain rfl := hr2
          have HG7 := Lib.hid (HG6.out.beside HH6.out.guard T2.keep SP6.out.2)
          have BY1 := Lib.hid (BY1.out.keep T2.keep (fun k cs hk => may_away HH6.out.guard hk))
          have SP7 := Lib.hid (And.intro (SP6.out.1.step' HG6.out.guard T2.M T2.al T2.own) (SP6.out.2.step HG6.out.guard T2.M T2.own))
          have HB7 := Lib.hid (HB6.out.trans (T2.keep.below HB6.out.size (fun j hj => Nat.le_trans HB4.out.size (may_base HH6.out.guard hj))))
          have k1 := convB w7 R1 n1 c1 da BY1.out.1
          have k2 := convB w7 R2 n2 c2' da BY2.1
          have HH7 := Lib.hid HH7
          clear T2 C2 BY2 gx6 ONX
          generalize strOfNums da = sd at *
          go_wp2
          go_roundw
          case rel => exact ⟨k + 1, st', s1', t1', by omega, by go_num, HG7, HH7, SP7, STN, HB7⟩
          case measure => simp [intOf]; omega
        · obtain rfl : k = q := by omega
          have b1 : ¬ (k : Int) < (k : Int) := by omega
          have hq30 := Q.out.2.2.1
          have hiq := HI.out.1
          have htl := HTR.out
          have e1 : s1.ts = st.tr := congrArg FS.tr HG.out.hst
          have e2 : t1.ts = st.tr := congrArg FS.tr HH.out.hst
          have e3 : s1.rd = st.rd := congrArg FS.rd HG.out.hst
          have e4 : t1.rd = st.rd := congrArg FS.rd HH.out.hst
          have E1 := trace_any w2.heap.size g s1 wr HG.out.guard hb2 (by rw [e1]; omega)
          have E2 := Lib.hid (fun V hb => trace_any w4.heap.size g2 t1 V (HH.out.below hb).guard hb4 (by rw [e2]; omega))
          have E3 := Lib.hid (fun V hb => read_any w2.heap.size g s1 V (HG.out.below hb).guard hb2)
          have E4 := Lib.hid (fun V hb => read_any w4.heap.size g2 t1 V (HH.out.below hb).guard hb4)
          rw [e1] at E1
          rw [e2] at E2
          rw [e3] at E3
          rw [e4] at E4
          have E1 := Lib.hid E1
          generalize st.rd = rdv at *
          obtain ⟨tr, htr⟩ : ∃ tr, tr = st.tr := ⟨_, rfl⟩
          rw [← htr] at E1 E2
          have HTL : Hid (tr.length ≤ 1048576) := Lib.hid (by rw [htr]; omega)
          clear e1 e2 e3 e4 htr htl HG HH HSP HTR
          go_wp2_with fail
          refine E1.out.mono ?_
          rintro e w8 ⟨A8, c8, rfl, hown8, hB8⟩
          go_wp2_with fail
          refine (E2.out w8 hB8).mono ?_
          rintro e w9 ⟨A9, c9, rfl, hown9, hB9⟩
          have hB89 := hB8.trans (hB9.mono hB8.size)
          have HB9 := Lib.hid (HB.out.trans (hB89.mono HB.out.size))
          have HB89 := Lib.hid hB89
          have TX := textsT_any A8 tr.length c8 tr A9 tr.length c9 tr w9 (TsAt.of_own (ownF_below hown8 hB9)) (TsAt.of_own hown9) (Nat.le_trans HTL.out (by decide))
          rw [show decide (tr = tr) = true from decide_eq_true rfl] at TX
          have TX := Lib.hid TX
          clear hown8 hown9 hB8 hB9 hB89
          go_wp2_with fail
          refine TX.out.mono ?_
          rintro e w10 ⟨rfl, dd, hw10⟩
          have HB10 : Hid (Below wr.heap.size wr w10) := Lib.hid (by rw [hw10]; exact HB89.out.trans ((below_drawnF w9.heap.size w9 dd).mono HB89.out.size))
          have HBW10 := Lib.hid (HB.out.trans (HB10.out.mono HB.out.size))
          clear hw10 TX
          go_wp2_with fail
          refine (E3.out w10 HB10.out).mono ?_
          rintro e w11 ⟨rfl, rfl⟩
          go_wp2_with fail
          refine (E4.out _ HB10.out).mono ?_
          rintro e w12 ⟨rfl, rfl⟩
          go_wp2_with fail
          refine (CL.out _ HBW10.out).mono ?_
          rintro e w13 ⟨rfl, hB13⟩
          have HB13 := Lib.hid (HBW10.out.trans (hB13.mono HBW10.out.size))
          clear hB13
          go_wp2
          go_ret
          exact ⟨rfl, HB13.out⟩
    · go_wp2_with fail
      refine (CL.out _ HB2.out).mono ?_
      rintro e w3 ⟨rfl, hB3⟩
      go_wp2
      go_ret
      exact ⟨rfl, HB2.out.trans (hB3.mono HB2.out.size)⟩
end Go.Proofs.YtkneafpmgbgalaaGreatDoor
