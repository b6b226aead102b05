/- The contracts of uri.Text and uri.Norm. Conditions: at most 2^20 bytes; internal/bytealg.MaxLen holds an int. -/
import Derived.Test.YtkneafpmgbgalaaGreatDoorUriParse
namespace Go.Proofs.YtkneafpmgbgalaaGreatDoor
open Go.RowKit Go.Proofs.YtkneafpmgbgalaaGreatDoor.CharsPlain Go.Proofs.YtkneafpmgbgalaaGreatDoor.UriPlain
set_option linter.unusedVariables false
set_option linter.unusedSimpArgs false
theorem uri_sizes (l : List UInt8) : (uriU l).1.length ≤ l.length + 3 ∧ (uriU l).2.1.length ≤ l.length + 3 ∧ (uriU l).2.2.length ≤ l.length + 3 := by
  unfold uriU
  split
  · simp
  · cases h : parseU l with
    | none => simp
    | some u =>
      have := text_length l u h
      refine ⟨?_, ?_, ?_⟩ <;> (simp only; omega)
set_option maxRecDepth 100000 in
set_option maxHeartbeats 1000000 in
theorem text_any (u : List UInt8 × List UInt8 × List UInt8) (w : World) (h1 : u.1.length ≤ 1048586) (h2 : u.2.1.length ≤ 1048586) (h3 : u.2.2.length ≤ 1048586) : Calls Tryz.prog 45 #[uriV u] w (TellS (bS (textU u)) w) := by
  obtain ⟨a, ha⟩ : ∃ a, a = bS u.1 := ⟨_, rfl⟩
  obtain ⟨b, hb⟩ : ∃ b, b = bS u.2.1 := ⟨_, rfl⟩
  obtain ⟨c, hc⟩ : ∃ c, c = bS u.2.2 := ⟨_, rfl⟩
  have za : a.size ≤ 1048586 := by rw [ha, bS_size]; exact h1
  have zb : b.size ≤ 1048586 := by rw [hb, bS_size]; exact h2
  have zc : c.size ≤ 1048586 := by rw [hc, bS_size]; exact h3
  have z3 : (ByteArray.mk #[58, 47, 47]).size = 3 := rfl
  have HF : Hid (a ++ ⟨#[58, 47, 47]⟩ ++ b ++ c = bS (textU u)) := by
    show _ = _
    rw [ha, hb, hc]
    unfold textU
    rw [show ByteArray.mk #[58, 47, 47] = bS sep3 from rfl, bS_app, bS_app, bS_app]
    congr 1
    simp
  have hS1 := fun w' => run_string_add (P := Tryz.prog) w' a ⟨#[58, 47, 47]⟩ (by omega) (by decide)
  have hS2 := fun w' => run_string_add (P := Tryz.prog) w' (a ++ ⟨#[58, 47, 47]⟩) b (by rw [ByteArray.size_append, z3]; omega) (by omega)
  have hS3 := fun w' => run_string_add (P := Tryz.prog) w' (a ++ ⟨#[58, 47, 47]⟩ ++ b) c (by rw [ByteArray.size_append, ByteArray.size_append, z3]; omega) (by omega)
  unfold uriV
  rw [← ha, ← hb, ← hc]
  clear ha hb hc
  go_enter Tryz.func45, Tryz.ntmps45
  go_wp2
  go_ret
  rw [HF.out]
  exact ⟨rfl, (Below.refl _ _).alloc (Nat.le_refl _) _⟩
/-- What uri.Norm tells. -/
def normU (l : List UInt8) : List UInt8 := if uriE l = 0 then textU (uriU l) else []
def TellNorm (l : List UInt8) (w : World) (e : Ending) (w' : World) : Prop := e = .returned (.tuple #[.string (bS (normU l)), .int .i64 (uriE l)]) ∧ Below w.heap.size w w'
set_option maxRecDepth 100000 in
set_option maxHeartbeats 1000000 in
theorem norm_any (s : ByteArray) (w : World) (m : Int) (hs : s.size ≤ 1048576) (hm : w.cell? ⟨0, 0, none⟩ = some (.int .i64 m)) : Calls Tryz.prog 35 #[.string s] w (TellNorm s.data.toList w) := by
  have C := Lib.hid (parse_any s w m hs hm)
  have hz := uri_sizes s.data.toList
  rw [len3] at hz
  obtain ⟨h1, h2, h3⟩ := hz
  obtain ⟨k, hk⟩ : ∃ k, k = uriE s.data.toList := ⟨_, rfl⟩
  have CT := fun w' => text_any (uriU s.data.toList) w' (by omega) (by omega) (by omega)
  obtain ⟨a, b, c, hv⟩ : ∃ a b c, uriV (uriU s.data.toList) = .agg #[.string a, .string b, .string c] := ⟨_, _, _, rfl⟩
  rw [hv] at CT
  have HV := Lib.hid hv
  have CT := Lib.hid CT
  have HK := Lib.hid hk
  clear hm hk h1 h2 h3 hv
  by_cases hk0 : k = 0
  · have HN : Hid (normU s.data.toList = textU (uriU s.data.toList)) := by show _ = _; unfold normU; rw [if_pos (by rw [← HK.out]; exact hk0)]
    subst hk0
    go_enter Tryz.func35, Tryz.ntmps35
    go_wp2_with fail
    refine C.out.mono ?_
    rintro e w1 ⟨rfl, hb1⟩
    rw [← HK.out, HV.out]
    go_wp2_with fail
    refine (CT.out _).mono ?_
    rintro e w2 ⟨rfl, hb2⟩
    go_wp2
    go_ret2
    refine ⟨by rw [HN.out, ← HK.out]; rfl, ?_⟩
    have h1 := hb1.size
    refine (hb1.alloc h1 _).trans (hb2.mono ?_)
    simp; omega
  · have HN : Hid (normU s.data.toList = []) := by show _ = _; unfold normU; rw [if_neg (by rw [← HK.out]; exact hk0)]
    have t1 : (k == 0) = false := by simpa using hk0
    go_enter Tryz.func35, Tryz.ntmps35
    go_wp2_with fail
    refine C.out.mono ?_
    rintro e w1 ⟨rfl, hb1⟩
    rw [← HK.out, HV.out]
    go_wp2
    go_ret2
    refine ⟨by rw [HN.out, ← HK.out]; rfl, ?_⟩
    have h1 := hb1.size
    first
      | exact (((hb1.alloc h1 _).setCell (p := ⟨w1.heap.size, 0, none⟩) h1 _).setCell (p := ⟨w1.heap.size, 1, none⟩) h1 _).setCell (p := ⟨w1.heap.size, 2, none⟩) h1 _
      | exact hb1.alloc h1 _
end Go.Proofs.YtkneafpmgbgalaaGreatDoor
