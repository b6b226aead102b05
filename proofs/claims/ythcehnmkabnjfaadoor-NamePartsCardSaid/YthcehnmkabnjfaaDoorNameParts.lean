/- The contracts of IsToken and of the reference's Part, and the walk of NameParts. Conditions: the tables of chars and of utf hold what the text gives them. -/
import Derived.Test.YthcehnmkabnjfaaDoorNameReads
namespace Go.Proofs.YthcehnmkabnjfaaDoor
open Go.RowKit Go.Proofs.YthcehnmkabnjfaaDoor.UtfPlain Go.Proofs.YthcehnmkabnjfaaDoor.CharsPlain Go.Proofs.YthcehnmkabnjfaaDoor.NamePlain
/-- Is a text some characters of names? -/
def isTok (s : ByteArray) : Bool := decide (¬ s = ⟨#[]⟩) && allP isName (runes (bsOf s))
theorem isTok_no : isTok ⟨#[]⟩ = false := rfl
theorem isTok_yes {s : ByteArray} (h : ¬ s = ⟨#[]⟩) : isTok s = allP isName (runes (bsOf s)) := by unfold isTok; simp [h]
set_option maxHeartbeats 2000000 in
theorem isToken_any (s : ByteArray) (w : World) (hs : s.size ≤ 1099511627776) (hf : FormsAt w) (ht : Tabs w) :
    Calls Tryd.prog 15 #[.string s] w (BelB (isTok s) w) := by
  have HF := Lib.hid hf
  have HT := Lib.hid ht
  clear hf ht
  by_cases h0 : s = ⟨#[]⟩
  · subst h0
    go_enter Tryd.func15, Tryd.ntmps15
    go_wp2
    go_ret
    exact ⟨rfl, Below.refl _ _⟩
  · rw [isTok_yes h0]
    have q0 := strEmpty_no h0
    have hcv := fun V => Lib.run_convert_string_bytes (P := Tryd.prog) V 9 23 5 s Tryd.underlying9 Tryd.underlying23 Tryd.underlying5
    have hC := bytesWorld_below w s
    have hg1 := grownCap_ge w s.size 0 5
    have hg2 := grownCap_le_maxLen w s.size 0 5 (by unfold maxLen; omega)
    have EN := Lib.hid (callP_any 27 isName (enters_of Tryd.func27 (by kernel_rfl) rfl) (fun r W h => name_any r W h) (some ⟨w.heap.size, 0, none⟩) s.size (grownCap w s.size 0 5) (bsOf s) _ (by omega) hg1 (by unfold maxLen at hg2; omega) (bytesWorld_bytes w s) (HF.out.below hC HF.out.size) (HT.out.below hC HT.out.size))
    have HC := Lib.hid hC
    clear hg1 hg2 hC h0
    go_enter Tryd.func15, Tryd.ntmps15
    go_wp2_with fail
    refine EN.out.mono ?_
    rintro x w2 ⟨rfl, hB2⟩
    go_wp2
    go_ret
    exact ⟨rfl, HC.out.trans (hB2.mono HC.out.size)⟩
theorem isTok_eq (s : ByteArray) : isTok s = (decide (¬ s = ⟨#[]⟩) && allK 3 (runes (bsOf s))) := rfl
/-- How many colons are in the first k bytes, and where the last one is. -/
inductive Colons (l : List UInt8) : Nat → Nat → Nat → Prop where
  | none (k : Nat) (h : ∀ j, j < k → l[j]? ≠ some 58) : Colons l k 0 0
  | one (k a : Nat) (ha : a < k) (h : l[a]? = some 58) (h1 : ∀ j, j < k → j ≠ a → l[j]? ≠ some 58) : Colons l k 1 a
  | many (k c a i : Nat) (hc : 2 ≤ c) (hck : c ≤ k) (hi : i < a) (ha : a < k) (h1 : l[i]? = some 58) (h2 : ∀ j, j < i → l[j]? ≠ some 58) (h3 : l[a]? = some 58) : Colons l k c a
theorem Colons.no {l : List UInt8} {k c a : Nat} (h : Colons l k c a) (hk : l[k]? ≠ some 58) : Colons l (k + 1) c a := by
  cases h with
  | none h => exact .none _ fun j hj => by rcases Nat.lt_succ_iff_lt_or_eq.1 hj with h' | rfl; exact h j h'; exact hk
  | one _ ha h h1 => exact .one _ _ (by omega) h fun j hj hne => by rcases Nat.lt_succ_iff_lt_or_eq.1 hj with h' | rfl; exact h1 j h' hne; exact hk
  | many _ _ i hc hck hi ha h1 h2 h3 => exact .many _ _ _ i hc (by omega) hi (by omega) h1 h2 h3
theorem Colons.yes {l : List UInt8} {k c a : Nat} (h : Colons l k c a) (hk : l[k]? = some 58) : Colons l (k + 1) (c + 1) k := by
  cases h with
  | none h => exact .one _ _ (by omega) hk fun j hj hne => h j (by omega)
  | one _ ha h h1 => exact .many _ _ _ a (by omega) (by omega) ha (by omega) h (fun j hj => h1 j (by omega) (by omega)) hk
  | many _ _ i hc hck hi ha h1 h2 h3 => exact .many _ _ _ i (by omega) (by omega) (by omega) (by omega) h1 h2 hk
theorem Colons.le {l : List UInt8} {k c a : Nat} (h : Colons l k c a) : c ≤ k := by
  cases h with
  | none => omega
  | one => omega
  | many _ _ _ _ hck => exact hck
theorem colon_first {s : ByteArray} {i : Nat} (h1 : s.data.toList[i]? = some 58) (h2 : ∀ j, j < i → s.data.toList[j]? ≠ some 58) : colon s = i := by
  rcases Int.lt_or_le (colon s) 0 with hc | hc
  · have h : colon s = -1 := by have := Lib.indexByte_ge s.data.toList 58; unfold colon at hc ⊢; omega
    exact absurd h1 (Lib.indexByte_none h i)
  · obtain ⟨k, hk⟩ : ∃ k : Nat, colon s = k := ⟨(colon s).toNat, by omega⟩
    obtain ⟨e1, e2⟩ := Lib.indexByte_some hk
    have : k = i := by
      rcases Nat.lt_trichotomy k i with h | h | h
      · exact absurd e1 (h2 k h)
      · exact h
      · exact absurd h1 (e2 i h)
    rw [hk, this]
theorem colon_none {s : ByteArray} (h : ∀ j, j < s.size → s.data.toList[j]? ≠ some 58) : colon s = -1 := by
  rcases Int.lt_or_le (colon s) 0 with hc | hc
  · have := Lib.indexByte_ge s.data.toList 58; unfold colon at hc ⊢; omega
  · obtain ⟨k, hk⟩ : ∃ k : Nat, colon s = k := ⟨(colon s).toNat, by omega⟩
    exact absurd (Lib.indexByte_some hk).1 (h k (colon_b s k hk))
theorem right_colon {s : ByteArray} {i a : Nat} (hi : i < a) (ha : s.data.toList[a]? = some 58) : isN (bsOf (s.extract (i + 1) s.size)) true = false := by
  cases h : isN (bsOf (s.extract (i + 1) s.size)) true with
  | false => rfl
  | true =>
    exfalso
    have has : a < s.size := by have := (List.getElem?_eq_some_iff.1 ha).1; rw [Array.length_toList] at this; exact this
    refine isN_no58 _ h (a - (i + 1)) ?_
    unfold bsOf
    rw [List.getElem?_map, Lib.extract_to_end, List.getElem?_drop, show i + 1 + (a - (i + 1)) = a by omega, ha]
    rfl
theorem Colons.ended {s : ByteArray} {k c a : Nat} (h : Colons s.data.toList k c a) (hk : k = s.size) :
    (c = 0 ∧ colon s = -1) ∨ (c = 1 ∧ colon s = a ∧ a < s.size) ∨ (2 ≤ c ∧ a < s.size ∧ ∃ i : Nat, colon s = i ∧ isN (bsOf (s.extract (i + 1) s.size)) true = false) := by
  cases h with
  | none h => exact .inl ⟨rfl, colon_none (by rw [← hk]; exact h)⟩
  | one _ ha h h1 => exact .inr (.inl ⟨rfl, colon_first h fun j hj => h1 j (by omega) (by omega), by omega⟩)
  | many _ _ i hc hck hi ha h1 h2 h3 => exact .inr (.inr ⟨hc, by omega, i, colon_first h1 h2, right_colon hi h3⟩)
set_option maxRecDepth 100000 in
set_option maxHeartbeats 4000000 in
theorem rpart_any (s : ByteArray) (w : World) (hs : s.size ≤ 1099511627776) :
    Calls Tryd.prog 18 #[.string s] w (TellPart (partS s) w) := by
  have C0 := Lib.hid (ris_text false s w hs)
  cases hq : isN (bsOf s) false with
  | false =>
    rw [partS_form hq]
    rw [hq] at C0
    clear hq
    go_enter Tryd.func18, Tryd.ntmps18
    go_wp2_with fail
    refine C0.out.mono ?_
    rintro x w1 ⟨rfl, hB1⟩
    go_wp2
    go_ret3
    exact ⟨rfl, hB1⟩
  | true =>
    rw [hq] at C0
    have HQ := Lib.hid hq
    clear hq
    go_enter Tryd.func18, Tryd.ntmps18
    go_wp2_with fail
    refine C0.out.mono ?_
    rintro x w1 ⟨rfl, hB1⟩
    have HB1 := Lib.hid hB1
    clear hB1
    go_wp2
    go_loop [5, 6, 7] (fun m0 a0 i0 => ∃ c a k : Nat, k ≤ s.size ∧ m0 = .int .i64 c ∧ a0 = .int .i64 a ∧ i0 = .int .i64 k ∧ Hid (Colons s.data.toList k c a)) (fun _ _ i0 => s.size - (intOf i0).toNat)
    case atStart => exact ⟨0, 0, 0, Nat.zero_le _, rfl, rfl, rfl, .none _ fun j hj => by omega⟩
    case round =>
      obtain ⟨c, a, k, hk, rfl, rfl, rfl, HK⟩ := hrel
      have hck := HK.out.le
      by_cases hlt : k < s.size
      · have hget : s.data.toList[k]? = some (s[k]'hlt) := by rw [List.getElem?_eq_getElem (by rw [Array.length_toList]; exact hlt)]; rfl
        by_cases hc : ((s[k]'hlt).toNat : Int) = 58
        · have hs58 : s[k]'hlt = 58 := UInt8.toNat_inj.1 (show (s[k]'hlt).toNat = 58 by omega)
          have K2 := Lib.hid (HK.out.yes (by rw [hget, hs58]))
          have q1 : (((s[k]'hlt).toNat : Int) == 58) = true := by simpa using hc
          clear hget hc hs58
          go_wp2
          go_round
          case rel => exact ⟨c + 1, k, k + 1, by omega, by go_num, rfl, by go_num, K2⟩
          case measure => simp [intOf]; omega
        · have K2 := Lib.hid (HK.out.no (by rw [hget]; intro e; apply hc; rw [Option.some.inj e]; rfl))
          have q1 : (((s[k]'hlt).toNat : Int) == 58) = false := by simpa using hc
          clear hget hc
          go_wp2
          go_round
          case rel => exact ⟨c, a, k + 1, by omega, rfl, rfl, by go_num, K2⟩
          case measure => simp [intOf]; omega
      · have hks : k = s.size := by omega
        rcases HK.out.ended hks with ⟨rfl, hc⟩ | ⟨rfl, hc, ha⟩ | ⟨hc2, ha, i, hc, hr⟩
        · have PS := Lib.hid (partS_none HQ.out hc)
          clear hc HK hks
          go_wp2
          go_ret3
          rw [PS.out]
          exact ⟨rfl, HB1.out⟩
        · have z1 := ext_size s 0 a
          have z2 := ext_size s (a + 1) s.size
          have b0 : (0 : Int) ≤ (a : Int) := by omega
          have b1 : (a : Int) ≤ (s.size : Int) := by omega
          have b2 : a ≤ s.size := by omega
          have b3 : a + 1 ≤ s.size := by omega
          have b4 : (0 : Int) ≤ (a : Int) + 1 := by omega
          have b5 : ((a : Int) + 1).toNat = a + 1 := by omega
          have b6 : (a : Int) + 1 ≤ (s.size : Int) := by omega
          have CC := Lib.hid hc
          cases h1 : isN (bsOf (s.extract 0 a)) true with
          | false =>
            have PS := Lib.hid (partS_no HQ.out hc (.inl h1))
            have P1 := Lib.hid (ris_text true (s.extract 0 a) w1 (by omega))
            rw [h1] at P1
            clear hc h1 HK hks
            go_wp2_with fail
            refine P1.out.mono ?_
            rintro x w2 ⟨rfl, hB2⟩
            go_wp2
            go_ret3
            rw [PS.out]
            exact ⟨rfl, HB1.out.trans (hB2.mono HB1.out.size)⟩
          | true =>
            have P1 := Lib.hid (ris_text true (s.extract 0 a) w1 (by omega))
            rw [h1] at P1
            cases h2 : isN (bsOf (s.extract (a + 1) s.size)) true with
            | false =>
              have PS := Lib.hid (partS_no HQ.out hc (.inr h2))
              have H2 := Lib.hid h2
              clear hc h1 h2 HK hks
              go_wp2_with fail
              refine P1.out.mono ?_
              rintro x w2 ⟨rfl, hB2⟩
              have HC2 := Lib.hid (HB1.out.trans (hB2.mono HB1.out.size))
              clear hB2
              go_wp2_with fail
              refine (ris_text true (s.extract (a + 1) s.size) w2 (by omega)).mono ?_
              rintro x w3 ⟨rfl, hB3⟩
              rw [H2.out]
              go_wp2
              go_ret3
              rw [PS.out]
              exact ⟨rfl, HC2.out.trans (hB3.mono HC2.out.size)⟩
            | true =>
              have PS := Lib.hid (partS_ok HQ.out hc h1 h2)
              have H2 := Lib.hid h2
              clear hc h1 h2 HK hks
              go_wp2_with fail
              refine P1.out.mono ?_
              rintro x w2 ⟨rfl, hB2⟩
              have HC2 := Lib.hid (HB1.out.trans (hB2.mono HB1.out.size))
              clear hB2
              go_wp2_with fail
              refine (ris_text true (s.extract (a + 1) s.size) w2 (by omega)).mono ?_
              rintro x w3 ⟨rfl, hB3⟩
              rw [H2.out]
              have HC3 := Lib.hid (HC2.out.trans (hB3.mono HC2.out.size))
              clear hB3
              have s1 : IntKind.i64.wrap ((a : Int) + 1) = (a : Int) + 1 := IntWalk.i64_in _ (by omega)
              go_wp2_with fail
              go_quiet (fail)
              go_wp2
              go_ret3
              rw [PS.out]
              exact ⟨rfl, HC3.out.trans (belowN_drewN _ _ _)⟩
        · have PS := Lib.hid (partS_no HQ.out hc (.inr hr))
          have t1 : decide ((1 : Int) < (c : Int)) = true := by simp; omega
          have t2 : ((c : Int) == 0) = false := by simp; omega
          clear hc hr HK hks
          go_wp2
          go_ret3
          rw [PS.out]
          exact ⟨rfl, HB1.out⟩
theorem bytes_len (a : ByteArray) : a.data.toList.length = a.size := by rw [Array.length_toList]; rfl
theorem glue (s : ByteArray) (i : Nat) (h : colon s = i) : s.extract 0 i ++ ⟨#[58]⟩ ++ s.extract (i + 1) s.size = s := by
  apply Go.WideShapes.bytes_inj
  rw [ByteArray.data_append, ByteArray.data_append, Array.toList_append, Array.toList_append, Lib.extract_to_end, Lib.extract_data]
  have hi := colon_b s i h
  have h1 := (Lib.indexByte_some h).1
  simp only [Nat.sub_zero, List.drop_zero]
  have hl : i < s.data.toList.length := by rw [bytes_len]; exact hi
  rw [List.getElem?_eq_getElem hl] at h1
  have h58 := Option.some.inj h1
  conv => rhs; rw [← List.take_append_drop i s.data.toList, List.drop_eq_getElem_cons hl, h58]
  simp
theorem partS_cases (s : ByteArray) : (∃ e : Int, ¬ e = 0 ∧ partS s = (⟨#[]⟩, ⟨#[]⟩, e)) ∨ partS s = (⟨#[]⟩, s, 0) ∨ ∃ i : Nat, colon s = i ∧ partS s = (s.extract 0 i, s.extract (i + 1) s.size, 0) ∧ ¬ s.extract 0 i = ⟨#[]⟩ := by
  cases hq : isN (bsOf s) false with
  | false => exact .inl ⟨7, by omega, partS_form hq⟩
  | true =>
    rcases Int.lt_or_le (colon s) 0 with hc | hc
    · have hc' : colon s = -1 := by have := Lib.indexByte_ge s.data.toList 58; unfold colon at hc ⊢; omega
      exact .inr (.inl (partS_none hq hc'))
    · obtain ⟨i, hi⟩ : ∃ i : Nat, colon s = i := ⟨(colon s).toNat, by omega⟩
      cases h1 : isN (bsOf (s.extract 0 i)) true with
      | false => exact .inl ⟨9, by omega, partS_no hq hi (.inl h1)⟩
      | true =>
        cases h2 : isN (bsOf (s.extract (i + 1) s.size)) true with
        | false => exact .inl ⟨9, by omega, partS_no hq hi (.inr h2)⟩
        | true => exact .inr (.inr ⟨i, hi, partS_ok hq hi h1 h2, fun e => by rw [e] at h1; exact absurd h1 (by decide)⟩)
end Go.Proofs.YthcehnmkabnjfaaDoor
