/- The contracts of (sort).end, read and whole, whatever two functions tell which characters may stand. Conditions: the table of forms holds what the text gives it; bytes read as numbers from 0 to 255. -/
import Derived.Test.YtlifdmehejehjaaDoorNameRef
import Derived.Test.YtlifdmehejehjaaDoorUtfDecode
import Derived.Deep.QuietTactic
import Derived.BigQuiet
namespace Go.Proofs.YtlifdmehejehjaaDoor
open Go.RowKit Go.Proofs.YtlifdmehejehjaaDoor.UtfPlain Go.Proofs.YtlifdmehejehjaaDoor.CharsPlain Go.Proofs.YtlifdmehejehjaaDoor.NamePlain
theorem decode_no (A : Option Addr) (n cp k : Nat) (xs : List Int) (w : World) (hn : n ≤ 140737488355328) (hcp : n ≤ cp) (hcp2 : cp ≤ 9223372036854775807) (hb : BytesAt w A n xs) (hf : FormsAt w) (hk : k < n) (hz : (charAt xs k).2 = 0) :
    Calls Tryd.prog 75 #[.slice A n cp, .int .i64 k] w fun e w' => e = .returned (.tuple #[.int .i64 0, .int .i64 0, .int .i64 5]) ∧ ∃ d, w' = w.drewN d :=
  (decode_any A n cp k xs w hn hcp hcp2 hb hf hk).mono fun e w' h => ⟨by rw [h.1]; simp [hz], h.2⟩
theorem decode_yes (A : Option Addr) (n cp k m : Nat) (r : Int) (xs : List Int) (w : World) (hn : n ≤ 140737488355328) (hcp : n ≤ cp) (hcp2 : cp ≤ 9223372036854775807) (hb : BytesAt w A n xs) (hf : FormsAt w) (hk : k < n) (hz : charAt xs k = (r, m)) (hm : m ≠ 0) :
    Calls Tryd.prog 75 #[.slice A n cp, .int .i64 k] w fun e w' => e = .returned (.tuple #[.int .i64 r, .int .i64 ((k : Int) + m), .int .i64 0]) ∧ ∃ d, w' = w.drewN d :=
  (decode_any A n cp k xs w hn hcp hcp2 hb hf hk).mono fun e w' h => ⟨by rw [h.1, hz]; simp [hm], h.2⟩
theorem sortBox (w : World) (u v : Value) (t : TypeId) : ∃ W, w.alloc (.cells #[u, v] t) = W ∧ Below w.heap.size w W ∧ w.heap.size < W.heap.size ∧ W.cell? ⟨w.heap.size, 0, none⟩ = some u ∧ W.cell? ⟨w.heap.size, 1, none⟩ = some v :=
  ⟨_, rfl, (Below.refl _ _).alloc (Nat.le_refl _) _, by simp, by simp, by simp⟩
/-- A function that tells whether a character may stand, in whatever memory grew out of w. -/
def MayF0 (fid : FuncId) (f : Int → Bool) (w : World) : Prop :=
  (∀ (args : Array Value) (W : World), (callFunc fid args).run Tryd.prog W = .ok (.enter fid args) W) ∧ ∀ (r : Int) (W : World), Below w.heap.size w W → Calls Tryd.prog fid #[.int .i64 r] W (BelB (f r) W)
theorem MayF0.below {fid : FuncId} {f : Int → Bool} {w W : World} (h : MayF0 fid f w) (hb : Below w.heap.size w W) : MayF0 fid f W := ⟨h.1, fun r V hV => h.2 r V (hb.trans (hV.mono hb.size))⟩
set_option maxRecDepth 100000 in
set_option maxHeartbeats 4000000 in
theorem end0_any (plain : Bool) (f1 f2 : FuncId) (A : Option Addr) (n cp i : Nat) (xs : List Int) (w : World) (hn : n ≤ 140737488355328) (hcp : n ≤ cp) (hcp2 : cp ≤ 9223372036854775807) (hb : BytesAt w A n xs) (hf : FormsAt w)
    (h1 : MayF0 f1 (mayK true plain) w) (h2 : MayF0 f2 (mayK false plain) w) (hi : i ≤ n) :
    Calls Tryd.prog 63 #[.agg #[(.func (.func f1) #[] #[]), (.func (.func f2) #[] #[])], .slice A n cp, .int .i64 i] w (BelI (endN xs plain true i) w) := by
  obtain ⟨W, hW, hB0, hs0, c0, c1⟩ := sortBox w (.func (.func f1) #[] #[]) (.func (.func f2) #[] #[]) 105
  have BX := Lib.hid (hb.below hB0)
  have FX := Lib.hid (hf.below hB0 hf.size)
  have M1 := Lib.hid (h1.below hB0)
  have M2 := Lib.hid (h2.below hB0)
  have HB0 := Lib.hid hB0
  have C1 := Lib.hid c1
  have hl := hb.1
  have eg1 := h1.1
  have eg2 := h2.1
  clear hb hf h1 h2 hB0 c1
  go_enter Tryd.func63, Tryd.ntmps63
  go_wp2
  have HL := Lib.hid hl
  clear hl c0 hW
  go_loopw [2, 7, 8, 9, 10] (fun at_ may _ _ _ wr => ∃ (k : Nat) (first : Bool), k ≤ n ∧ at_ = .int .i64 k ∧ ((first = true ∧ may = (.func (.func f1) #[] #[])) ∨ (first = false ∧ may = (.func (.func f2) #[] #[]))) ∧ Hid (endN xs plain first k = endN xs plain true i) ∧ Hid (Below W.heap.size W wr)) (fun at_ _ _ _ _ _ => n - (intOf at_).toNat)
  case atStart => exact ⟨i, true, by omega, rfl, .inl ⟨rfl, rfl⟩, rfl, Below.refl _ _⟩
  case round =>
    obtain ⟨k, first, hk, rfl, hmay, HE, HB⟩ := hrel
    by_cases hlt : k < n
    · have BR := Lib.hid (BX.out.below HB.out)
      have FR := Lib.hid (FX.out.below HB.out FX.out.size)
      have hin := charAt_in xs k (by rw [HL.out]; exact hlt)
      rw [HL.out] at hin
      by_cases hz : (charAt xs k).2 = 0
      · have E := Lib.hid (HE.out.symm.trans (endN_no xs plain first k (.inl hz)))
        have D := Lib.hid (decode_no A n cp k xs wr hn hcp hcp2 BR.out FR.out hlt hz)
        clear hz HE hin
        rcases hmay with ⟨rfl, rfl⟩ | ⟨rfl, rfl⟩
        all_goals
          go_wp2_with fail
          refine D.out.mono ?_
          rintro x w2 ⟨rfl, d, rfl⟩
          go_wp2
          go_ret
          exact ⟨ret_int (by rw [E.out]), HB0.out.trans ((HB.out.trans (belowN_drewN _ _ d)).mono HB0.out.size)⟩
      · obtain ⟨r, m, hc⟩ : ∃ r m, charAt xs k = (r, m) := ⟨_, _, rfl⟩
        rw [hc] at hz hin
        have hm0 : m ≠ 0 := hz
        have hin' : k + m ≤ n := hin
        have D := Lib.hid (decode_yes A n cp k m r xs wr hn hcp hcp2 BR.out FR.out hlt hc hm0)
        have CH := Lib.hid hc
        cases hq : mayK first plain r with
        | false =>
          have E := Lib.hid (HE.out.symm.trans (endN_no xs plain first k (.inr (by rw [hc]; exact hq))))
          have Q := Lib.hid hq
          clear hz hin hc hq HE
          rcases hmay with ⟨rfl, rfl⟩ | ⟨rfl, rfl⟩
          · go_wp2_with fail
            refine D.out.mono ?_
            rintro x w2 ⟨rfl, d, rfl⟩
            go_wp2_with fail
            have CF := Lib.hid (M1.out.2 r (wr.drewN d) (HB.out.trans (belowN_drewN _ _ d)))
            refine CF.out.mono ?_
            rintro x w3 ⟨rfl, hB3⟩
            rw [Q.out]
            go_wp2
            go_ret
            exact ⟨ret_int (by rw [E.out]), HB0.out.trans (((HB.out.trans (belowN_drewN _ _ d)).trans (hB3.mono ((HB.out.trans (belowN_drewN _ _ d)).size))).mono HB0.out.size)⟩
          · go_wp2_with fail
            refine D.out.mono ?_
            rintro x w2 ⟨rfl, d, rfl⟩
            go_wp2_with fail
            have CF := Lib.hid (M2.out.2 r (wr.drewN d) (HB.out.trans (belowN_drewN _ _ d)))
            refine CF.out.mono ?_
            rintro x w3 ⟨rfl, hB3⟩
            rw [Q.out]
            go_wp2
            go_ret
            exact ⟨ret_int (by rw [E.out]), HB0.out.trans (((HB.out.trans (belowN_drewN _ _ d)).trans (hB3.mono ((HB.out.trans (belowN_drewN _ _ d)).size))).mono HB0.out.size)⟩
        | true =>
          have E := Lib.hid (HE.out.symm.trans (endN_yes xs plain first k (by rw [HL.out]; exact hlt) (by rw [hc]; exact hm0) (by rw [hc]; exact hq)))
          have E2 : Hid (endN xs plain false (k + m) = endN xs plain true i) := by
            have h := E.out
            rw [hc] at h
            exact h.symm
          have Q := Lib.hid hq
          clear hz hin hc hq HE E
          rcases hmay with ⟨rfl, rfl⟩ | ⟨rfl, rfl⟩
          · go_wp2_with fail
            refine D.out.mono ?_
            rintro x w2 ⟨rfl, d, rfl⟩
            go_wp2_with fail
            have CF := Lib.hid (M1.out.2 r (wr.drewN d) (HB.out.trans (belowN_drewN _ _ d)))
            refine CF.out.mono ?_
            rintro x w3 ⟨rfl, hB3⟩
            rw [Q.out]
            have HB3 := Lib.hid ((HB.out.trans (belowN_drewN _ _ d)).trans (hB3.mono ((HB.out.trans (belowN_drewN _ _ d)).size)))
            have c1 : w3.cell? ⟨w.heap.size, 1, none⟩ = some (.func (.func f2) #[] #[]) := (HB3.out.cell (p := ⟨w.heap.size, 1, none⟩) hs0).trans C1.out
            clear hB3 CF D
            go_wp2_with fail
            go_quiet (fail)
            go_wp2
            go_roundw
            case rel => exact ⟨k + m, false, by omega, by go_num, .inr ⟨rfl, rfl⟩, E2, HB3.out.trans (belowN_drewN _ _ _)⟩
            case measure => simp [intOf]; omega
          · go_wp2_with fail
            refine D.out.mono ?_
            rintro x w2 ⟨rfl, d, rfl⟩
            go_wp2_with fail
            have CF := Lib.hid (M2.out.2 r (wr.drewN d) (HB.out.trans (belowN_drewN _ _ d)))
            refine CF.out.mono ?_
            rintro x w3 ⟨rfl, hB3⟩
            rw [Q.out]
            have HB3 := Lib.hid ((HB.out.trans (belowN_drewN _ _ d)).trans (hB3.mono ((HB.out.trans (belowN_drewN _ _ d)).size)))
            have c1 : w3.cell? ⟨w.heap.size, 1, none⟩ = some (.func (.func f2) #[] #[]) := (HB3.out.cell (p := ⟨w.heap.size, 1, none⟩) hs0).trans C1.out
            clear hB3 CF D
            go_wp2_with fail
            go_quiet (fail)
            go_wp2
            go_roundw
            case rel => exact ⟨k + m, false, by omega, by go_num, .inr ⟨rfl, rfl⟩, E2, HB3.out.trans (belowN_drewN _ _ _)⟩
            case measure => simp [intOf]; omega
    · have E := Lib.hid (HE.out.symm.trans (endN_at xs plain first k (by rw [HL.out]; omega)))
      have b3 : ¬ k < n := hlt
      have hkn : k = n := by omega
      clear HE
      rcases hmay with ⟨rfl, rfl⟩ | ⟨rfl, rfl⟩
      all_goals
        go_wp2
        go_ret
        exact ⟨ret_int (by rw [E.out]), HB0.out.trans (HB.out.mono HB0.out.size)⟩
/-- A function that tells whether a character may stand, in whatever memory grew out of w. -/
def MayF1 (fid : FuncId) (cap : Value) (f : Int → Bool) (w : World) : Prop :=
  (∀ (args : Array Value) (W : World), (callFunc fid args).run Tryd.prog W = .ok (.enter fid args) W) ∧ ∀ (r : Int) (W : World), Below w.heap.size w W → Calls Tryd.prog fid #[.int .i64 r, cap] W (BelB (f r) W)
theorem MayF1.below {fid : FuncId} {cap : Value} {f : Int → Bool} {w W : World} (h : MayF1 fid cap f w) (hb : Below w.heap.size w W) : MayF1 fid cap f W := ⟨h.1, fun r V hV => h.2 r V (hb.trans (hV.mono hb.size))⟩
set_option maxRecDepth 100000 in
set_option maxHeartbeats 4000000 in
theorem end1_any (plain : Bool) (f1 f2 : FuncId) (cap1 cap2 : Value) (A : Option Addr) (n cp i : Nat) (xs : List Int) (w : World) (hn : n ≤ 140737488355328) (hcp : n ≤ cp) (hcp2 : cp ≤ 9223372036854775807) (hb : BytesAt w A n xs) (hf : FormsAt w)
    (h1 : MayF1 f1 cap1 (mayK true plain) w) (h2 : MayF1 f2 cap2 (mayK false plain) w) (hi : i ≤ n) :
    Calls Tryd.prog 63 #[.agg #[(.func (.func f1) #[] #[cap1]), (.func (.func f2) #[] #[cap2])], .slice A n cp, .int .i64 i] w (BelI (endN xs plain true i) w) := by
  obtain ⟨W, hW, hB0, hs0, c0, c1⟩ := sortBox w (.func (.func f1) #[] #[cap1]) (.func (.func f2) #[] #[cap2]) 105
  have BX := Lib.hid (hb.below hB0)
  have FX := Lib.hid (hf.below hB0 hf.size)
  have M1 := Lib.hid (h1.below hB0)
  have M2 := Lib.hid (h2.below hB0)
  have HB0 := Lib.hid hB0
  have C1 := Lib.hid c1
  have hl := hb.1
  have eg1 := h1.1
  have eg2 := h2.1
  clear hb hf h1 h2 hB0 c1
  go_enter Tryd.func63, Tryd.ntmps63
  go_wp2
  have HL := Lib.hid hl
  clear hl c0 hW
  go_loopw [2, 7, 8, 9, 10] (fun at_ may _ _ _ wr => ∃ (k : Nat) (first : Bool), k ≤ n ∧ at_ = .int .i64 k ∧ ((first = true ∧ may = (.func (.func f1) #[] #[cap1])) ∨ (first = false ∧ may = (.func (.func f2) #[] #[cap2]))) ∧ Hid (endN xs plain first k = endN xs plain true i) ∧ Hid (Below W.heap.size W wr)) (fun at_ _ _ _ _ _ => n - (intOf at_).toNat)
  case atStart => exact ⟨i, true, by omega, rfl, .inl ⟨rfl, rfl⟩, rfl, Below.refl _ _⟩
  case round =>
    obtain ⟨k, first, hk, rfl, hmay, HE, HB⟩ := hrel
    by_cases hlt : k < n
    · have BR := Lib.hid (BX.out.below HB.out)
      have FR := Lib.hid (FX.out.below HB.out FX.out.size)
      have hin := charAt_in xs k (by rw [HL.out]; exact hlt)
      rw [HL.out] at hin
      by_cases hz : (charAt xs k).2 = 0
      · have E := Lib.hid (HE.out.symm.trans (endN_no xs plain first k (.inl hz)))
        have D := Lib.hid (decode_no A n cp k xs wr hn hcp hcp2 BR.out FR.out hlt hz)
        clear hz HE hin
        rcases hmay with ⟨rfl, rfl⟩ | ⟨rfl, rfl⟩
        all_goals
          go_wp2_with fail
          refine D.out.mono ?_
          rintro x w2 ⟨rfl, d, rfl⟩
          go_wp2
          go_ret
          exact ⟨ret_int (by rw [E.out]), HB0.out.trans ((HB.out.trans (belowN_drewN _ _ d)).mono HB0.out.size)⟩
      · obtain ⟨r, m, hc⟩ : ∃ r m, charAt xs k = (r, m) := ⟨_, _, rfl⟩
        rw [hc] at hz hin
        have hm0 : m ≠ 0 := hz
        have hin' : k + m ≤ n := hin
        have D := Lib.hid (decode_yes A n cp k m r xs wr hn hcp hcp2 BR.out FR.out hlt hc hm0)
        have CH := Lib.hid hc
        cases hq : mayK first plain r with
        | false =>
          have E := Lib.hid (HE.out.symm.trans (endN_no xs plain first k (.inr (by rw [hc]; exact hq))))
          have Q := Lib.hid hq
          clear hz hin hc hq HE
          rcases hmay with ⟨rfl, rfl⟩ | ⟨rfl, rfl⟩
          · go_wp2_with fail
            refine D.out.mono ?_
            rintro x w2 ⟨rfl, d, rfl⟩
            go_wp2_with fail
            have CF := Lib.hid (M1.out.2 r (wr.drewN d) (HB.out.trans (belowN_drewN _ _ d)))
            refine CF.out.mono ?_
            rintro x w3 ⟨rfl, hB3⟩
            rw [Q.out]
            go_wp2
            go_ret
            exact ⟨ret_int (by rw [E.out]), HB0.out.trans (((HB.out.trans (belowN_drewN _ _ d)).trans (hB3.mono ((HB.out.trans (belowN_drewN _ _ d)).size))).mono HB0.out.size)⟩
          · go_wp2_with fail
            refine D.out.mono ?_
            rintro x w2 ⟨rfl, d, rfl⟩
            go_wp2_with fail
            have CF := Lib.hid (M2.out.2 r (wr.drewN d) (HB.out.trans (belowN_drewN _ _ d)))
            refine CF.out.mono ?_
            rintro x w3 ⟨rfl, hB3⟩
            rw [Q.out]
            go_wp2
            go_ret
            exact ⟨ret_int (by rw [E.out]), HB0.out.trans (((HB.out.trans (belowN_drewN _ _ d)).trans (hB3.mono ((HB.out.trans (belowN_drewN _ _ d)).size))).mono HB0.out.size)⟩
        | true =>
          have E := Lib.hid (HE.out.symm.trans (endN_yes xs plain first k (by rw [HL.out]; exact hlt) (by rw [hc]; exact hm0) (by rw [hc]; exact hq)))
          have E2 : Hid (endN xs plain false (k + m) = endN xs plain true i) := by
            have h := E.out
            rw [hc] at h
            exact h.symm
          have Q := Lib.hid hq
          clear hz hin hc hq HE E
          rcases hmay with ⟨rfl, rfl⟩ | ⟨rfl, rfl⟩
          · go_wp2_with fail
            refine D.out.mono ?_
            rintro x w2 ⟨rfl, d, rfl⟩
            go_wp2_with fail
            have CF := Lib.hid (M1.out.2 r (wr.drewN d) (HB.out.trans (belowN_drewN _ _ d)))
            refine CF.out.mono ?_
            rintro x w3 ⟨rfl, hB3⟩
            rw [Q.out]
            have HB3 := Lib.hid ((HB.out.trans (belowN_drewN _ _ d)).trans (hB3.mono ((HB.out.trans (belowN_drewN _ _ d)).size)))
            have c1 : w3.cell? ⟨w.heap.size, 1, none⟩ = some (.func (.func f2) #[] #[cap2]) := (HB3.out.cell (p := ⟨w.heap.size, 1, none⟩) hs0).trans C1.out
            clear hB3 CF D
            go_wp2_with fail
            go_quiet (fail)
            go_wp2
            go_roundw
            case rel => exact ⟨k + m, false, by omega, by go_num, .inr ⟨rfl, rfl⟩, E2, HB3.out.trans (belowN_drewN _ _ _)⟩
            case measure => simp [intOf]; omega
          · go_wp2_with fail
            refine D.out.mono ?_
            rintro x w2 ⟨rfl, d, rfl⟩
            go_wp2_with fail
            have CF := Lib.hid (M2.out.2 r (wr.drewN d) (HB.out.trans (belowN_drewN _ _ d)))
            refine CF.out.mono ?_
            rintro x w3 ⟨rfl, hB3⟩
            rw [Q.out]
            have HB3 := Lib.hid ((HB.out.trans (belowN_drewN _ _ d)).trans (hB3.mono ((HB.out.trans (belowN_drewN _ _ d)).size)))
            have c1 : w3.cell? ⟨w.heap.size, 1, none⟩ = some (.func (.func f2) #[] #[cap2]) := (HB3.out.cell (p := ⟨w.heap.size, 1, none⟩) hs0).trans C1.out
            clear hB3 CF D
            go_wp2_with fail
            go_quiet (fail)
            go_wp2
            go_roundw
            case rel => exact ⟨k + m, false, by omega, by go_num, .inr ⟨rfl, rfl⟩, E2, HB3.out.trans (belowN_drewN _ _ _)⟩
            case measure => simp [intOf]; omega
    · have E := Lib.hid (HE.out.symm.trans (endN_at xs plain first k (by rw [HL.out]; omega)))
      have b3 : ¬ k < n := hlt
      have hkn : k = n := by omega
      clear HE
      rcases hmay with ⟨rfl, rfl⟩ | ⟨rfl, rfl⟩
      all_goals
        go_wp2
        go_ret
        exact ⟨ret_int (by rw [E.out]), HB0.out.trans (HB.out.mono HB0.out.size)⟩
end Go.Proofs.YtlifdmehejehjaaDoor
