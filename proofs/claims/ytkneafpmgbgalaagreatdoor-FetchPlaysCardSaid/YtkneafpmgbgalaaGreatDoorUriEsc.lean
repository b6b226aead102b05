/- The contract of uri.escaped. Conditions: a text that Go can hold. -/
import Derived.Test.YtkneafpmgbgalaaGreatDoorUriSmall
import Derived.Deep.QuietTactic
import Derived.BigQuiet
import Derived.Laws.IdiomStrings
import Derived.WalkSmall
namespace Go.Proofs.YtkneafpmgbgalaaGreatDoor
open Go.RowKit Go.Proofs.YtkneafpmgbgalaaGreatDoor.CharsPlain Go.Proofs.YtkneafpmgbgalaaGreatDoor.UriPlain
set_option linter.unusedVariables false
set_option linter.unusedSimpArgs false
theorem quietRI {P : Program} {f : FuncId} {args : Array Value} {w : World} {n : Nat} {m : Int} (h : Calls P f args (w.drewN n) (RetI m (w.drewN n))) :
    Calls P f args (w.drewN n) fun e w'' => e = .returned (.int .i64 m) ∧ ∃ k, w'' = w.drewN k := Calls.quiet_of_same (h.mono fun _ _ h => ⟨h.1, h.2.symm⟩)
theorem byte64 (c : UInt8) : wrap64 (c.toNat : Int) = (c.toNat : Int) := by
  have h := c.toNat_lt
  unfold wrap64; omega
theorem conv1 (W : World) (g c : Nat) (hg : g = W.heap.size) (n : Int) (h0 : 0 ≤ n) (h1 : n ≤ 255) :
    (convert 34 9 (.slice (some ⟨g, 0, none⟩) 1 c)).run Tryz.prog (W.alloc (.cells #[.int .u8 n] 5)) = .ok (.string ⟨#[n.toNat.toUInt8]⟩) (W.alloc (.cells #[.int .u8 n] 5)) := by
  subst hg
  refine run_convert_bytes_back _ 34 9 5 ⟨W.heap.size, 0, none⟩ c [n.toNat.toUInt8] Tryz.underlying34 Tryz.underlying5 Tryz.underlying9 ?_
  intro j hj
  have : j = 0 := by simp at hj; exact hj
  subst this
  show (W.alloc _).cell? ⟨W.heap.size, 0, none⟩ = _
  rw [World.cell?_alloc_mark]
  simp; omega
theorem conv3 (W : World) (g c : Nat) (hg : g = W.heap.size) (x y z : UInt8) :
    (convert 34 9 (.slice (some ⟨g, 0, none⟩) 3 c)).run Tryz.prog (W.alloc (.cells #[.int .u8 x.toNat, .int .u8 y.toNat, .int .u8 z.toNat] 5)) = .ok (.string ⟨#[x, y, z]⟩) (W.alloc (.cells #[.int .u8 x.toNat, .int .u8 y.toNat, .int .u8 z.toNat] 5)) := by
  subst hg
  refine run_convert_bytes_back _ 34 9 5 ⟨W.heap.size, 0, none⟩ c [x, y, z] Tryz.underlying34 Tryz.underlying5 Tryz.underlying9 ?_
  intro j hj
  have hj3 : j < 3 := by simpa using hj
  rcases j with _ | _ | _ | j
  · show (W.alloc _).cell? ⟨W.heap.size, 0, none⟩ = _
    rw [World.cell?_alloc_mark]; rfl
  · show (W.alloc _).cell? ⟨W.heap.size, 1, none⟩ = _
    rw [World.cell?_alloc_mark]; rfl
  · show (W.alloc _).cell? ⟨W.heap.size, 2, none⟩ = _
    rw [World.cell?_alloc_mark]; rfl
  · omega
theorem hexAt : ∀ k : Nat, k < 16 → ∀ h : k < 16, ((ByteArray.mk #[48, 49, 50, 51, 52, 53, 54, 55, 56, 57, 65, 66, 67, 68, 69, 70])[k]'h) = hexS.getD k 0 := by decide
def TellEsc (t : ByteArray) (b : Bool) (w : World) (e : Ending) (w' : World) : Prop := e = .returned (.tuple #[.string t, .bool b]) ∧ Below w.heap.size w w'
set_option maxRecDepth 100000 in
set_option maxHeartbeats 4000000 in
theorem escaped_short (s : ByteArray) (w : World) (hs : s.size < 3) : Calls Tryz.prog 71 #[.string s] w (TellEsc ⟨#[]⟩ false w) := by
  have t0 : (s.size : Int) < 3 := by omega
  go_enter Tryz.func71, Tryz.ntmps71
  go_wp2
  go_ret2
  exact ⟨rfl, Below.refl _ _⟩
set_option maxRecDepth 100000 in
set_option maxHeartbeats 4000000 in
theorem escaped_aux (s : ByteArray) (w : World) (h1 : 1 < s.size) (h2 : 2 < s.size) (x y : Int) (hx : Hid (digit (s[1].toNat : Int) 16 = x)) (hy : Hid (digit (s[2].toNat : Int) 16 = y)) (hx1 : x < 16) (hy1 : y < 16) (hn : s.size ≤ 1099511627776)
    (t : ByteArray) (b p : Bool) (hp : Hid (amI plainS (16 * x + y) = p)) (ht : Hid ((if x < 0 ∨ y < 0 then ⟨#[]⟩ else ⟨(escD x y).toArray⟩) = t)) (hb : Hid ((!decide (x < 0 ∨ y < 0)) = b)) :
    Calls Tryz.prog 71 #[.string s] w (TellEsc t b w) := by
  have t0 : ¬ (s.size : Int) < 3 := by omega
  have g1 : (1 : Int) < (s.size : Int) := by omega
  have g2 : (2 : Int) < (s.size : Int) := by omega
  have c1 : wrap64 (s[1].toNat : Int) = (s[1].toNat : Int) := byte64 _
  have c2 : wrap64 (s[2].toNat : Int) = (s[2].toNat : Int) := byte64 _
  go_enter Tryz.func71, Tryz.ntmps71
  go_wp2_with fail
  go_quiet ((go_at_call 86; exact quietRI (digit_any _ _ _)))
  rw [hx.out, hy.out]
  by_cases x0 : x < 0
  · have HT : Hid (t = ⟨#[]⟩) := by show _ = _; rw [← ht.out, if_pos (Or.inl x0)]
    have HB : Hid (b = false) := by show _ = _; rw [← hb.out]; simp [x0]
    clear ht hb hx hy
    go_wp2
    go_ret2
    rw [HT.out, HB.out]
    exact ⟨rfl, below_drewN (Below.refl _ _) _⟩
  · by_cases y0 : y < 0
    · have HT : Hid (t = ⟨#[]⟩) := by show _ = _; rw [← ht.out, if_pos (Or.inr y0)]
      have HB : Hid (b = false) := by show _ = _; rw [← hb.out]; simp [y0]
      clear ht hb hx hy
      go_wp2
      go_ret2
      rw [HT.out, HB.out]
      exact ⟨rfl, below_drewN (Below.refl _ _) _⟩
    · have hxy : ¬ (x < 0 ∨ y < 0) := by omega
      have HT : Hid (t = ⟨(escD x y).toArray⟩) := by show _ = _; rw [← ht.out, if_neg hxy]
      have HB : Hid (b = true) := by show _ = _; rw [← hb.out]; simp [hxy]
      clear ht hb hx hy hxy
      have x1 : 0 ≤ x := by omega
      have y1 : 0 ≤ y := by omega
      go_wp2_with fail
      refine (among_any _ _ _).mono ?_
      rintro e w' ⟨rfl, rfl⟩
      rw [show amI (ByteArray.mk #[45, 46, 95, 126]).data.toList (16 * x + y) = p from hp.out]
      cases p with
      | true =>
        have HE : Hid (escD x y = [(16 * x + y).toNat.toUInt8]) := by show _ = _; unfold escD; rw [if_pos hp.out]
        have q := fun (c : Nat) => conv1 (w.drewN nq) w.heap.size c rfl (16 * x + y) (by omega) (by omega)
        clear hp
        go_wp2
        go_ret2
        rw [HT.out, HB.out, HE.out]
        exact ⟨rfl, (below_drewN (Below.refl _ _) _).alloc (Nat.le_refl _) _⟩
      | false =>
        have HE : Hid (escD x y = [37, hexS.getD x.toNat 0, hexS.getD y.toNat 0]) := by show _ = _; unfold escD; rw [if_neg (by rw [hp.out]; decide)]
        obtain ⟨X, hX⟩ : ∃ X, X = hexS.getD x.toNat 0 := ⟨_, rfl⟩
        obtain ⟨Y, hY⟩ : ∃ Y, Y = hexS.getD y.toNat 0 := ⟨_, rfl⟩
        have fX := fun h => (hexAt x.toNat (by omega) h).trans hX.symm
        have fY := fun h => (hexAt y.toNat (by omega) h).trans hY.symm
        rw [← hX, ← hY] at HE
        have q : ∀ m c : Nat, (convert 34 9 (.slice (some ⟨w.heap.size, 0, none⟩) 3 c)).run Tryz.prog ((w.drewN m).alloc (.cells #[.int .u8 37, .int .u8 X.toNat, .int .u8 Y.toNat] 5)) = .ok (.string ⟨#[37, X, Y]⟩) ((w.drewN m).alloc (.cells #[.int .u8 37, .int .u8 X.toNat, .int .u8 Y.toNat] 5)) :=
          fun m c => conv3 (w.drewN m) w.heap.size c rfl 37 X Y
        have hz : (ByteArray.mk #[48, 49, 50, 51, 52, 53, 54, 55, 56, 57, 65, 66, 67, 68, 69, 70]).size = 16 := rfl
        clear hp hX hY
        go_wp2
        go_region
        all_goals
          go_wp2
          go_ret2
          rw [HT.out, HB.out, HE.out]
          exact ⟨rfl, (below_drewN (Below.refl _ _) _).alloc (Nat.le_refl _) _⟩
end Go.Proofs.YtkneafpmgbgalaaGreatDoor
