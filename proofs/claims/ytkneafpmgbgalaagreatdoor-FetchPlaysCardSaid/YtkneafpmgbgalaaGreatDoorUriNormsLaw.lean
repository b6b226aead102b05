/- The walk of narthexlaw21.UriNorms. Conditions: internal/bytealg.MaxLen holds an int. -/
import Derived.Test.YtkneafpmgbgalaaGreatDoorUriDotsLaw
import Derived.Test.YtkneafpmgbgalaaGreatDoorUriRParse
namespace Go.Proofs.YtkneafpmgbgalaaGreatDoor
open Go.RowKit Go.Proofs.YtkneafpmgbgalaaGreatDoor.CharsPlain Go.Proofs.YtkneafpmgbgalaaGreatDoor.UriPlain
set_option linter.unusedVariables false
set_option linter.unusedSimpArgs false
theorem uri_big (l : List UInt8) (h : 4096 < l.length) : uriU l = ([], [], []) ∧ uriE l = 13 := by unfold uriU uriE; rw [if_pos h, if_pos h]; exact ⟨rfl, rfl⟩
theorem uri_sizes2 (l : List UInt8) : (uriU l).1.length ≤ 4099 ∧ (uriU l).2.1.length ≤ 4099 ∧ (uriU l).2.2.length ≤ 4099 := by
  by_cases h : 4096 < l.length
  · rw [(uri_big l h).1]; simp
  · have := uri_sizes l
    omega
set_option maxRecDepth 100000 in
theorem parse_free (s : ByteArray) (w : World) (m : Int) (hm : w.cell? ⟨0, 0, none⟩ = some (.int .i64 m)) : Calls Tryz.prog 44 #[.string s] w (TellUri s.data.toList w) := by
  by_cases hb : 4096 < s.size
  · have b1 : (4096 : Int) < (s.size : Int) := by omega
    have HB := Lib.hid hb
    have B0 := Lib.hid ((Below.refl w.heap.size w).alloc (Nat.le_refl _) (.cells #[.string ⟨#[]⟩, .string ⟨#[]⟩, .string ⟨#[]⟩] 84))
    clear hb hm
    go_enter Tryz.func44, Tryz.ntmps44
    go_wp2
    refine bodyPost_ret (v := .tuple #[.agg #[.string ⟨#[]⟩, .string ⟨#[]⟩, .string ⟨#[]⟩], .int .i64 13]) (by simp [results, Tryz.results44, go_sem]) rfl ?_
    exact TellUri.big (by rw [len3]; exact HB.out) B0.out
  · exact parse_any s w m (by omega) hm
set_option maxRecDepth 100000 in
theorem rparse_free (s : ByteArray) (w : World) : Calls Tryz.prog 41 #[.string s] w (TellUri s.data.toList w) := by
  by_cases hb : 4096 < s.size
  · have b1 : (4096 : Int) < (s.size : Int) := by omega
    have HB := Lib.hid hb
    have B0 := Lib.hid ((Below.refl w.heap.size w).alloc (Nat.le_refl _) (.cells #[.string ⟨#[]⟩, .string ⟨#[]⟩, .string ⟨#[]⟩] 80))
    clear hb
    go_enter Tryz.func41, Tryz.ntmps41
    go_wp2
    refine bodyPost_ret (v := .tuple #[.agg #[.string ⟨#[]⟩, .string ⟨#[]⟩, .string ⟨#[]⟩], .int .i64 13]) (by simp [results, Tryz.results41, go_sem]) rfl ?_
    exact TellUri.big (by rw [len3]; exact HB.out) B0.out
  · exact rparse_any s w (by omega)
set_option maxRecDepth 100000 in
set_option maxHeartbeats 1000000 in
theorem norm_free (s : ByteArray) (w : World) (m : Int) (hm : w.cell? ⟨0, 0, none⟩ = some (.int .i64 m)) : Calls Tryz.prog 35 #[.string s] w (TellNorm s.data.toList w) := by
  by_cases hb : 4096 < s.size
  · have C := Lib.hid (parse_free s w m hm)
    have HU := Lib.hid (uri_big s.data.toList (by rw [len3]; exact hb))
    have HN : Hid (normU s.data.toList = []) := by show _ = _; unfold normU; rw [HU.out.2]; rfl
    clear hm hb
    go_enter Tryz.func35, Tryz.ntmps35
    go_wp2_with fail
    refine C.out.mono ?_
    rintro e w1 ⟨rfl, hb1⟩
    rw [HU.out.1, HU.out.2]
    unfold uriV
    go_wp2
    go_ret2
    refine ⟨by rw [HN.out, HU.out.2]; rfl, ?_⟩
    have h1 := hb1.size
    first
      | exact (((hb1.alloc h1 _).setCell (p := ⟨w1.heap.size, 0, none⟩) h1 _).setCell (p := ⟨w1.heap.size, 1, none⟩) h1 _).setCell (p := ⟨w1.heap.size, 2, none⟩) h1 _
      | exact hb1.alloc h1 _
  · exact norm_any s w m (by omega) hm
set_option maxRecDepth 100000 in
set_option maxHeartbeats 1000000 in
theorem rnorm_free (s : ByteArray) (w : World) : Calls Tryz.prog 30 #[.string s] w (TellNorm s.data.toList w) := by
  have C := Lib.hid (rparse_free s w)
  obtain ⟨h1, h2, h3⟩ := uri_sizes2 s.data.toList
  obtain ⟨k, hk⟩ : ∃ k, k = uriE s.data.toList := ⟨_, rfl⟩
  obtain ⟨a, ha⟩ : ∃ a, a = bS (uriU s.data.toList).1 := ⟨_, rfl⟩
  obtain ⟨b, hb⟩ : ∃ b, b = bS (uriU s.data.toList).2.1 := ⟨_, rfl⟩
  obtain ⟨c, hc⟩ : ∃ c, c = bS (uriU s.data.toList).2.2 := ⟨_, rfl⟩
  have za : a.size ≤ 4099 := by rw [ha, bS_size]; exact h1
  have zb : b.size ≤ 4099 := by rw [hb, bS_size]; exact h2
  have zc : c.size ≤ 4099 := by rw [hc, bS_size]; exact h3
  have z3 : (ByteArray.mk #[58, 47, 47]).size = 3 := rfl
  have HF : Hid (a ++ ⟨#[58, 47, 47]⟩ ++ b ++ c = bS (textU (uriU s.data.toList))) := by
    show _ = _
    rw [ha, hb, hc]
    unfold textU
    rw [show ByteArray.mk #[58, 47, 47] = bS sep3 from rfl, bS_app, bS_app, bS_app]
    congr 1
    simp
  have hS1 := fun w' => run_string_add (P := Tryz.prog) w' a ⟨#[58, 47, 47]⟩ (by omega) (by decide)
  have hS2 := fun w' => run_string_add (P := Tryz.prog) w' (a ++ ⟨#[58, 47, 47]⟩) b (by rw [ByteArray.size_append, z3]; omega) (by omega)
  have hS3 := fun w' => run_string_add (P := Tryz.prog) w' (a ++ ⟨#[58, 47, 47]⟩ ++ b) c (by rw [ByteArray.size_append, ByteArray.size_append, z3]; omega) (by omega)
  have HV : Hid (uriV (uriU s.data.toList) = .agg #[.string a, .string b, .string c]) := by show _ = _; rw [ha, hb, hc]; rfl
  have HK := Lib.hid hk
  clear hk h1 h2 h3 ha hb hc z3
  by_cases hk0 : k = 0
  · have HN : Hid (normU s.data.toList = textU (uriU s.data.toList)) := by show _ = _; unfold normU; rw [if_pos (by rw [← HK.out]; exact hk0)]
    subst hk0
    go_enter Tryz.func30, Tryz.ntmps30
    go_wp2_with fail
    refine C.out.mono ?_
    rintro e w1 ⟨rfl, hb1⟩
    rw [← HK.out, HV.out]
    go_wp2
    go_ret2
    refine ⟨by rw [HN.out, ← HK.out, ← HF.out]; rfl, ?_⟩
    have h1 := hb1.size
    first
      | exact (((hb1.alloc h1 _).setCell (p := ⟨w1.heap.size, 0, none⟩) h1 _).setCell (p := ⟨w1.heap.size, 1, none⟩) h1 _).setCell (p := ⟨w1.heap.size, 2, none⟩) h1 _
      | exact hb1.alloc h1 _
  · have HN : Hid (normU s.data.toList = []) := by show _ = _; unfold normU; rw [if_neg (by rw [← HK.out]; exact hk0)]
    have t1 : (k == 0) = false := by simpa using hk0
    go_enter Tryz.func30, Tryz.ntmps30
    go_wp2_with fail
    refine C.out.mono ?_
    rintro e w1 ⟨rfl, hb1⟩
    rw [← HK.out, HV.out]
    go_wp2
    go_ret2
    refine ⟨by rw [HN.out, ← HK.out]; rfl, ?_⟩
    have h1 := hb1.size
    first
      | exact (((hb1.alloc h1 _).setCell (p := ⟨w1.heap.size, 0, none⟩) h1 _).setCell (p := ⟨w1.heap.size, 1, none⟩) h1 _).setCell (p := ⟨w1.heap.size, 2, none⟩) h1 _
      | exact hb1.alloc h1 _
theorem norm_is2 (s t : ByteArray) (k : Int) (w : World) (m : Int) (hm : w.cell? ⟨0, 0, none⟩ = some (.int .i64 m)) (h1 : bS (normU s.data.toList) = t) (h2 : uriE s.data.toList = k) : Calls Tryz.prog 35 #[.string s] w (TellNorm2 t k w) := by
  refine (norm_free s w m hm).mono ?_
  rintro e w' ⟨rfl, hb⟩
  rw [h1, h2]
  exact ⟨rfl, hb⟩
theorem rnorm_is (s t : ByteArray) (k : Int) (w : World) (h1 : bS (normU s.data.toList) = t) (h2 : uriE s.data.toList = k) : Calls Tryz.prog 30 #[.string s] w (TellNorm2 t k w) := by
  refine (rnorm_free s w).mono ?_
  rintro e w' ⟨rfl, hb⟩
  rw [h1, h2]
  exact ⟨rfl, hb⟩
def TellUri2 (v : Value) (k : Int) (w : World) (e : Ending) (w' : World) : Prop := e = .returned (.tuple #[v, .int .i64 k]) ∧ Below w.heap.size w w'
theorem parse_is (s : ByteArray) (v : Value) (k : Int) (w : World) (m : Int) (hm : w.cell? ⟨0, 0, none⟩ = some (.int .i64 m)) (h1 : uriV (uriU s.data.toList) = v) (h2 : uriE s.data.toList = k) : Calls Tryz.prog 44 #[.string s] w (TellUri2 v k w) := by
  refine (parse_free s w m hm).mono ?_
  rintro e w' ⟨rfl, hb⟩
  rw [h1, h2]
  exact ⟨rfl, hb⟩
theorem rparse_is (s : ByteArray) (v : Value) (k : Int) (w : World) (h1 : uriV (uriU s.data.toList) = v) (h2 : uriE s.data.toList = k) : Calls Tryz.prog 41 #[.string s] w (TellUri2 v k w) := by
  refine (rparse_free s w).mono ?_
  rintro e w' ⟨rfl, hb⟩
  rw [h1, h2]
  exact ⟨rfl, hb⟩
theorem uriE_cases (l : List UInt8) : (uriE l = 0 ∧ parseU l = some (uriU l) ∧ l.length ≤ 4096) ∨ (uriE l ≠ 0) := by
  unfold uriE uriU
  by_cases h : 4096 < l.length
  · right; rw [if_pos h]; decide
  · rw [if_neg h, if_neg h]
    cases h2 : parseU l with
    | none => right; simp
    | some u => left; exact ⟨rfl, rfl, by omega⟩
/-- A normal form stays, but for one that is too long. -/
theorem norm_again (l : List UInt8) (h : uriE l = 0) : uriE (textU (uriU l)) = 0 ∨ 4096 < (textU (uriU l)).length := by
  rcases uriE_cases l with ⟨_, h2, h3⟩ | h2
  · by_cases hb : 4096 < (textU (uriU l)).length
    · exact .inr hb
    · left
      unfold uriE
      rw [if_neg hb, parse_again l _ h2]
  · exact absurd h h2
end Go.Proofs.YtkneafpmgbgalaaGreatDoor
