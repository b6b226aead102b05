/- The walk of narthexlaw21.UriNorms. Conditions: internal/bytealg.MaxLen holds an int. -/
import Derived.Test.YtkijolghaolbhaaDoorUriDotsLaw
import Derived.Test.YtkijolghaolbhaaDoorUriRParse
namespace Go.Proofs.YtkijolghaolbhaaDoor
open Go.RowKit Go.Proofs.YtkijolghaolbhaaDoor.CharsPlain Go.Proofs.YtkijolghaolbhaaDoor.UriPlain
set_option linter.unusedVariables false
set_option linter.unusedSimpArgs false
theorem uri_big (l : List UInt8) (h : 4096 < l.length) : uriU l = ([], [], []) ∧ uriE l = 13 := by unfold uriU uriE; rw [if_pos h, if_pos h]; exact ⟨rfl, rfl⟩
theorem uri_sizes2 (l : List UInt8) : (uriU l).1.length ≤ 4099 ∧ (uriU l).2.1.length ≤ 4099 ∧ (uriU l).2.2.length ≤ 4099 := by
  by_cases h : 4096 < l.length
  · rw [(uri_big l h).1]; simp
  · have := uri_sizes l
    omega
set_option maxRecDepth 100000 in
theorem parse_free (s : ByteArray) (w : World) (m : Int) (hm : w.cell? ⟨0, 0, none⟩ = some (.int .i64 m)) : Calls Tryd.prog 7 #[.string s] w (TellUri s.data.toList w) := by
  by_cases hb : 4096 < s.size
  · have b1 : (4096 : Int) < (s.size : Int) := by omega
    have HB := Lib.hid hb
    have B0 := Lib.hid ((Below.refl w.heap.size w).alloc (Nat.le_refl _) (.cells #[.string ⟨#[]⟩, .string ⟨#[]⟩, .string ⟨#[]⟩] 24))
    clear hb hm
    go_enter Tryd.func7, Tryd.ntmps7
    go_wp2
    refine bodyPost_ret (v := .tuple #[.agg #[.string ⟨#[]⟩, .string ⟨#[]⟩, .string ⟨#[]⟩], .int .i64 13]) (by simp [results, Tryd.results7, go_sem]) rfl ?_
    exact TellUri.big (by rw [len3]; exact HB.out) B0.out
  · exact parse_any s w m (by omega) hm
set_option maxRecDepth 100000 in
theorem rparse_free (s : ByteArray) (w : World) : Calls Tryd.prog 9 #[.string s] w (TellUri s.data.toList w) := by
  by_cases hb : 4096 < s.size
  · have b1 : (4096 : Int) < (s.size : Int) := by omega
    have HB := Lib.hid hb
    have B0 := Lib.hid ((Below.refl w.heap.size w).alloc (Nat.le_refl _) (.cells #[.string ⟨#[]⟩, .string ⟨#[]⟩, .string ⟨#[]⟩] 30))
    clear hb
    go_enter Tryd.func9, Tryd.ntmps9
    go_wp2
    refine bodyPost_ret (v := .tuple #[.agg #[.string ⟨#[]⟩, .string ⟨#[]⟩, .string ⟨#[]⟩], .int .i64 13]) (by simp [results, Tryd.results9, go_sem]) rfl ?_
    exact TellUri.big (by rw [len3]; exact HB.out) B0.out
  · exact rparse_any s w (by omega)
set_option maxRecDepth 100000 in
set_option maxHeartbeats 1000000 in
theorem norm_free (s : ByteArray) (w : World) (m : Int) (hm : w.cell? ⟨0, 0, none⟩ = some (.int .i64 m)) : Calls Tryd.prog 8 #[.string s] w (TellNorm s.data.toList w) := by
  by_cases hb : 4096 < s.size
  · have C := Lib.hid (parse_free s w m hm)
    have HU := Lib.hid (uri_big s.data.toList (by rw [len3]; exact hb))
    have HN : Hid (normU s.data.toList = []) := by show _ = _; unfold normU; rw [HU.out.2]; rfl
    clear hm hb
    go_enter Tryd.func8, Tryd.ntmps8
    go_wp2_with fail
    refine C.out.mono ?_
    rintro e w1 ⟨rfl, hb1⟩
    rw [HU.out.1, HU.out.2]
    unfold uriV
    go_wp2
    go_ret2
    refine ⟨by rw [HN.out, HU.out.2]; rfl, ?_⟩
    have h1 := hb1.size
    first
      | exact (((hb1.alloc h1 _).setCell (p := ⟨w1.heap.size, 0, none⟩) h1 _).setCell (p := ⟨w1.heap.size, 1, none⟩) h1 _).setCell (p := ⟨w1.heap.size, 2, none⟩) h1 _
      | exact hb1.alloc h1 _
  · exact norm_any s w m (by omega) hm
set_option maxRecDepth 100000 in
set_option maxHeartbeats 1000000 in
theorem rnorm_free (s : ByteArray) (w : World) : Calls Tryd.prog 10 #[.string s] w (TellNorm s.data.toList w) := by
  have C := Lib.hid (rparse_free s w)
  obtain ⟨h1, h2, h3⟩ := uri_sizes2 s.data.toList
  obtain ⟨k, hk⟩ : ∃ k, k = uriE s.data.toList := ⟨_, rfl⟩
  obtain ⟨a, ha⟩ : ∃ a, a = bS (uriU s.data.toList).1 := ⟨_, rfl⟩
  obtain ⟨b, hb⟩ : ∃ b, b = bS (uriU s.data.toList).2.1 := ⟨_, rfl⟩
  obtain ⟨c, hc⟩ : ∃ c, c = bS (uriU s.data.toList).2.2 := ⟨_, rfl⟩
  have za : a.size ≤ 4099 := by rw [ha, bS_size]; exact h1
  have zb : b.size ≤ 4099 := by rw [hb, bS_size]; exact h2
  have zc : c.size ≤ 4099 := by rw [hc, bS_size]; exact h3
  have z3 : (ByteArray.mk #[58, 47, 47]).size = 3 := rfl
  have HF : Hid (a ++ ⟨#[58, 47, 47]⟩ ++ b ++ c = bS (textU (uriU s.data.toList))) := by
    show _ = _
    rw [ha, hb, hc]
    unfold textU
    rw [show ByteArray.mk #[58, 47, 47] = bS sep3 from rfl, bS_app, bS_app, bS_app]
    congr 1
    simp
  have hS1 := fun w' => run_string_add (P := Tryd.prog) w' a ⟨#[58, 47, 47]⟩ (by omega) (by decide)
  have hS2 := fun w' => run_string_add (P := Tryd.prog) w' (a ++ ⟨#[58, 47, 47]⟩) b (by rw [ByteArray.size_append, z3]; omega) (by omega)
  have hS3 := fun w' => run_string_add (P := Tryd.prog) w' (a ++ ⟨#[58, 47, 47]⟩ ++ b) c (by rw [ByteArray.size_append, ByteArray.size_append, z3]; omega) (by omega)
  have HV : Hid (uriV (uriU s.data.toList) = .agg #[.string a, .string b, .string c]) := by show _ = _; rw [ha, hb, hc]; rfl
  have HK := Lib.hid hk
  clear hk h1 h2 h3 ha hb hc z3
  by_cases hk0 : k = 0
  · have HN : Hid (normU s.data.toList = textU (uriU s.data.toList)) := by show _ = _; unfold normU; rw [if_pos (by rw [← HK.out]; exact hk0)]
    subst hk0
    go_enter Tryd.func10, Tryd.ntmps10
    go_wp2_with fail
    refine C.out.mono ?_
    rintro e w1 ⟨rfl, hb1⟩
    rw [← HK.out, HV.out]
    go_wp2
    go_ret2
    refine ⟨by rw [HN.out, ← HK.out, ← HF.out]; rfl, ?_⟩
    have h1 := hb1.size
    first
      | exact (((hb1.alloc h1 _).setCell (p := ⟨w1.heap.size, 0, none⟩) h1 _).setCell (p := ⟨w1.heap.size, 1, none⟩) h1 _).setCell (p := ⟨w1.heap.size, 2, none⟩) h1 _
      | exact hb1.alloc h1 _
  · have HN : Hid (normU s.data.toList = []) := by show _ = _; unfold normU; rw [if_neg (by rw [← HK.out]; exact hk0)]
    have t1 : (k == 0) = false := by simpa using hk0
    go_enter Tryd.func10, Tryd.ntmps10
    go_wp2_with fail
    refine C.out.mono ?_
    rintro e w1 ⟨rfl, hb1⟩
    rw [← HK.out, HV.out]
    go_wp2
    go_ret2
    refine ⟨by rw [HN.out, ← HK.out]; rfl, ?_⟩
    have h1 := hb1.size
    first
      | exact (((hb1.alloc h1 _).setCell (p := ⟨w1.heap.size, 0, none⟩) h1 _).setCell (p := ⟨w1.heap.size, 1, none⟩) h1 _).setCell (p := ⟨w1.heap.size, 2, none⟩) h1 _
      | exact hb1.alloc h1 _
theorem norm_is2 (s t : ByteArray) (k : Int) (w : World) (m : Int) (hm : w.cell? ⟨0, 0, none⟩ = some (.int .i64 m)) (h1 : bS (normU s.data.toList) = t) (h2 : uriE s.data.toList = k) : Calls Tryd.prog 8 #[.string s] w (TellNorm2 t k w) := by
  refine (norm_free s w m hm).mono ?_
  rintro e w' ⟨rfl, hb⟩
  rw [h1, h2]
  exact ⟨rfl, hb⟩
theorem rnorm_is (s t : ByteArray) (k : Int) (w : World) (h1 : bS (normU s.data.toList) = t) (h2 : uriE s.data.toList = k) : Calls Tryd.prog 10 #[.string s] w (TellNorm2 t k w) := by
  refine (rnorm_free s w).mono ?_
  rintro e w' ⟨rfl, hb⟩
  rw [h1, h2]
  exact ⟨rfl, hb⟩
def TellUri2 (v : Value) (k : Int) (w : World) (e : Ending) (w' : World) : Prop := e = .returned (.tuple #[v, .int .i64 k]) ∧ Below w.heap.size w w'
theorem parse_is (s : ByteArray) (v : Value) (k : Int) (w : World) (m : Int) (hm : w.cell? ⟨0, 0, none⟩ = some (.int .i64 m)) (h1 : uriV (uriU s.data.toList) = v) (h2 : uriE s.data.toList = k) : Calls Tryd.prog 7 #[.string s] w (TellUri2 v k w) := by
  refine (parse_free s w m hm).mono ?_
  rintro e w' ⟨rfl, hb⟩
  rw [h1, h2]
  exact ⟨rfl, hb⟩
theorem rparse_is (s : ByteArray) (v : Value) (k : Int) (w : World) (h1 : uriV (uriU s.data.toList) = v) (h2 : uriE s.data.toList = k) : Calls Tryd.prog 9 #[.string s] w (TellUri2 v k w) := by
  refine (rparse_free s w).mono ?_
  rintro e w' ⟨rfl, hb⟩
  rw [h1, h2]
  exact ⟨rfl, hb⟩
theorem uriE_cases (l : List UInt8) : (uriE l = 0 ∧ parseU l = some (uriU l) ∧ l.length ≤ 4096) ∨ (uriE l ≠ 0) := by
  unfold uriE uriU
  by_cases h : 4096 < l.length
  · right; rw [if_pos h]; decide
  · rw [if_neg h, if_neg h]
    cases h2 : parseU l with
    | none => right; simp
    | some u => left; exact ⟨rfl, rfl, by omega⟩
/-- A normal form stays, but for one that is too long. -/
theorem norm_again (l : List UInt8) (h : uriE l = 0) : uriE (textU (uriU l)) = 0 ∨ 4096 < (textU (uriU l)).length := by
  rcases uriE_cases l with ⟨_, h2, h3⟩ | h2
  · by_cases hb : 4096 < (textU (uriU l)).length
    · exact .inr hb
    · left
      unfold uriE
      rw [if_neg hb, parse_again l _ h2]
  · exact absurd h h2
set_option maxRecDepth 100000 in
set_option maxHeartbeats 4000000 in
theorem uriNorms_any (s : ByteArray) (w : World) (m : Int) (hm : w.cell? ⟨0, 0, none⟩ = some (.int .i64 m)) : Calls Tryd.prog 3 #[.string s] w (BelB true w) := by
  by_cases hp : 500 < s.size ∧ s.size ≤ 4096
  · have CL := Lib.hid (live21_any w m hm)
    clear hm
    have b1 : (500 : Int) < (s.size : Int) := by omega
    have b2 : (s.size : Int) ≤ 4096 := by omega
    go_enter Tryd.func3, Tryd.ntmps3
    go_wp2_with fail
    refine CL.out.mono ?_
    rintro e w' ⟨rfl, hb⟩
    go_wp2
    go_ret
    exact ⟨rfl, hb⟩
  · have HM := Lib.hid hm
    obtain ⟨k, hk⟩ : ∃ k, uriE s.data.toList = k := ⟨_, rfl⟩
    obtain ⟨a, ha⟩ : ∃ a, a = bS (uriU s.data.toList).1 := ⟨_, rfl⟩
    obtain ⟨b, hb⟩ : ∃ b, b = bS (uriU s.data.toList).2.1 := ⟨_, rfl⟩
    obtain ⟨c, hc⟩ : ∃ c, c = bS (uriU s.data.toList).2.2 := ⟨_, rfl⟩
    obtain ⟨t, ht⟩ : ∃ t, bS (normU s.data.toList) = t := ⟨_, rfl⟩
    have hv : uriV (uriU s.data.toList) = .agg #[.string a, .string b, .string c] := by rw [ha, hb, hc]; rfl
    have C1 := Lib.hid (parse_is s _ k w m hm hv hk)
    have C2 := Lib.hid (fun w' hm' => norm_is2 s t k w' m hm' ht hk)
    have C3 := Lib.hid (fun w' => rparse_is s _ k w' hv hk)
    have C4 := Lib.hid (fun w' => rnorm_is s t k w' ht hk)
    have HV := Lib.hid hv
    have HT := Lib.hid ht
    have HK := Lib.hid hk
    have HP := Lib.hid hp
    have HRUN : (500 : Int) < (s.size : Int) → ¬ (s.size : Int) ≤ 4096 := fun h1 h2 => hp ⟨by omega, by omega⟩
    clear hm hv ht hk hp ha hb hc
    have HB0 : (500 : Int) < (s.size : Int) ∧ ¬ (s.size : Int) ≤ 4096 ∨ ¬ (500 : Int) < (s.size : Int) := by
      by_cases b1 : (500 : Int) < (s.size : Int)
      · exact .inl ⟨b1, HRUN b1⟩
      · exact .inr b1
    clear HRUN
    rcases HB0 with ⟨b1, b2⟩ | b1
    all_goals
      go_enter Tryd.func3, Tryd.ntmps3
      go_wp2_with fail
      go_at_call 7
      refine C1.out.mono ?_
      rintro e w1 ⟨rfl, hb1⟩
      have HB1 := Lib.hid hb1
      have HM1 := Lib.hid (maxlen_below HM.out hb1)
      clear hb1 C1
      go_wp2_with fail
      go_at_call 8
      refine (C2.out _ (maxlen_below HM1.out ((Below.refl _ _).alloc (Nat.le_refl _) _))).mono ?_
      rintro e w2 ⟨rfl, hb2⟩
      have z2 := hb2.size
      have HB2 := Lib.hid ((HB1.out.alloc HB1.out.size _).trans (hb2.mono ((HB1.out.alloc HB1.out.size _).size)))
      have HM2 := Lib.hid (maxlen_below (maxlen_below HM1.out ((Below.refl _ _).alloc (Nat.le_refl _) _)) hb2)
      have c0 : w2.cell? ⟨w1.heap.size, 0, none⟩ = some (.string a) := (hb2.cell (p := ⟨w1.heap.size, 0, none⟩) (by simp)).trans (by simp)
      have c1 : w2.cell? ⟨w1.heap.size, 1, none⟩ = some (.string b) := (hb2.cell (p := ⟨w1.heap.size, 1, none⟩) (by simp)).trans (by simp)
      have c2 : w2.cell? ⟨w1.heap.size, 2, none⟩ = some (.string c) := (hb2.cell (p := ⟨w1.heap.size, 2, none⟩) (by simp)).trans (by simp)
      have hlt : w1.heap.size < w2.heap.size := by simp at z2; omega
      have HC0 := Lib.hid c0
      have HC1 := Lib.hid c1
      have HC2 := Lib.hid c2
      clear hb2 C2 z2 c0 c1 c2
      go_wp2_with fail
      go_at_call 9
      refine (C3.out _).mono ?_
      rintro e w3 ⟨rfl, hb3⟩
      have z3 := hb3.size
      have HB3 := Lib.hid (HB2.out.trans (hb3.mono HB2.out.size))
      have HM3 := Lib.hid (maxlen_below HM2.out hb3)
      have HD0 := Lib.hid ((hb3.cell (p := ⟨w1.heap.size, 0, none⟩) hlt).trans HC0.out)
      have HD1 := Lib.hid ((hb3.cell (p := ⟨w1.heap.size, 1, none⟩) hlt).trans HC1.out)
      have HD2 := Lib.hid ((hb3.cell (p := ⟨w1.heap.size, 2, none⟩) hlt).trans HC2.out)
      have hlt3 : w1.heap.size < w3.heap.size := by omega
      clear hb3 C3 z3 HC0 HC1 HC2
      go_wp2_with fail
      go_at_call 10
      refine (C4.out _).mono ?_
      rintro e w4 ⟨rfl, hb4⟩
      have z4 := hb4.size
      have hB4 := (HB3.out.alloc HB3.out.size _).trans (hb4.mono ((HB3.out.alloc HB3.out.size _).size))
      have HM4 := Lib.hid (maxlen_below (maxlen_below HM3.out ((Below.refl _ _).alloc (Nat.le_refl _) _)) hb4)
      have hB3 := (Below.refl w3.heap.size w3).alloc (Nat.le_refl _) (.cells #[.string a, .string b, .string c] 30)
      have hlt4 : w1.heap.size < (w3.alloc (.cells #[.string a, .string b, .string c] 30)).heap.size := by simp; omega
      have e0 : w4.cell? ⟨w3.heap.size, 0, none⟩ = some (.string a) := (hb4.cell (p := ⟨w3.heap.size, 0, none⟩) (by simp)).trans (by simp)
      have e1 : w4.cell? ⟨w3.heap.size, 1, none⟩ = some (.string b) := (hb4.cell (p := ⟨w3.heap.size, 1, none⟩) (by simp)).trans (by simp)
      have e2 : w4.cell? ⟨w3.heap.size, 2, none⟩ = some (.string c) := (hb4.cell (p := ⟨w3.heap.size, 2, none⟩) (by simp)).trans (by simp)
      have f0 := (hb4.cell (p := ⟨w1.heap.size, 0, none⟩) hlt4).trans ((hB3.cell (p := ⟨w1.heap.size, 0, none⟩) hlt3).trans HD0.out)
      have f1 := (hb4.cell (p := ⟨w1.heap.size, 1, none⟩) hlt4).trans ((hB3.cell (p := ⟨w1.heap.size, 1, none⟩) hlt3).trans HD1.out)
      have f2 := (hb4.cell (p := ⟨w1.heap.size, 2, none⟩) hlt4).trans ((hB3.cell (p := ⟨w1.heap.size, 2, none⟩) hlt3).trans HD2.out)
      have hlt5 : w1.heap.size < w4.heap.size := by simp at z4; omega
      have HB4 := Lib.hid hB4
      clear hb4 C4 z4 hB3 hB4 hlt4
      by_cases hk0 : k = 0
      · subst hk0
        have hu : parseU s.data.toList = some (uriU s.data.toList) ∧ s.size ≤ 4096 := by
          rcases uriE_cases s.data.toList with ⟨_, h2, h3⟩ | h2
          · exact ⟨h2, by rw [len3] at h3; exact h3⟩
          · exact absurd HK.out h2
        have hnt : normU s.data.toList = textU (uriU s.data.toList) := by unfold normU; rw [if_pos HK.out]
        have htd : t.data.toList = textU (uriU s.data.toList) := by rw [← HT.out, ← hnt]; rfl
        have htl : ¬ 4096 < (textU (uriU s.data.toList)).length := by
          have h1 := (text_length _ _ hu.1).1
          rw [len3] at h1
          have h2 := HP.out
          omega
        have hpt : parseU t.data.toList = some (uriU s.data.toList) := by rw [htd]; exact parse_again _ _ hu.1
        have het : uriE t.data.toList = 0 := by unfold uriE; rw [htd, if_neg htl, ← htd, hpt]
        have hut : uriU t.data.toList = uriU s.data.toList := by unfold uriU; rw [htd, if_neg htl, ← htd, hpt]; rfl
        have hn2 : bS (normU t.data.toList) = t := by
          have : normU t.data.toList = t.data.toList := by unfold normU; rw [if_pos het, hut, htd]
          rw [this]; exact bS_of t
        have C5 := Lib.hid (norm_is2 t t 0 w4 m HM4.out hn2 het)
        obtain ⟨y1, y2, y3⟩ := uri_sizes2 s.data.toList
        have hst : bS (textU (uriU s.data.toList)) = t := by rw [← hnt]; exact HT.out
        have C6 := fun w' => text_any (uriU s.data.toList) w' (by omega) (by omega) (by omega)
        rw [HV.out, hst] at C6
        have C6 := Lib.hid C6
        clear hu hnt htd htl hpt het hut hn2 y1 y2 y3 hst
        go_wp2_with fail
        go_at_call 8
        refine C5.out.mono ?_
        rintro e w5 ⟨rfl, hb5⟩
        have HB5 := Lib.hid (HB4.out.trans (hb5.mono HB4.out.size))
        have HM5 := Lib.hid (maxlen_below HM4.out hb5)
        have k0 := (hb5.cell (p := ⟨w1.heap.size, 0, none⟩) hlt5).trans f0
        have k1 := (hb5.cell (p := ⟨w1.heap.size, 1, none⟩) hlt5).trans f1
        have k2 := (hb5.cell (p := ⟨w1.heap.size, 2, none⟩) hlt5).trans f2
        clear hb5 C5 e0 e1 e2 f0 f1 f2
        go_wp2_with fail
        go_at_call 11
        refine (C6.out _).mono ?_
        rintro e w6 ⟨rfl, hb6⟩
        have HB6 := Lib.hid (HB5.out.trans (hb6.mono HB5.out.size))
        have CL := Lib.hid (live21_any w6 m (maxlen_below HM5.out hb6))
        clear hb6 C6
        go_wp2_with fail
        go_at_call 6
        refine CL.out.mono ?_
        rintro e w7 ⟨rfl, hb7⟩
        go_wp2
        go_ret
        exact ⟨rfl, HB6.out.trans (hb7.mono HB6.out.size)⟩
      · have t1 : (k == 0) = false := by simpa using hk0
        have t2 : (k != 0) = true := by simpa using hk0
        have CL := Lib.hid (live21_any w4 m HM4.out)
        go_wp2_with fail
        go_at_call 6
        refine CL.out.mono ?_
        rintro e w5 ⟨rfl, hb5⟩
        go_wp2
        go_ret
        exact ⟨rfl, HB4.out.trans (hb5.mono HB4.out.size)⟩
end Go.Proofs.YtkijolghaolbhaaDoor
