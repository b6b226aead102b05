/- The contracts of narthexref26.Bytes and Great at events of any size: sums go round as Go's do. Conditions: none on sizes. -/
import Derived.Test.YtlifdmehejehjaaDoorEvGreat
namespace Go.Proofs.YtlifdmehejehjaaDoor
open Go.RowKit
/-- One attribute more, in Go's numbers. -/
def atW (s : Int) (x : At) : Int := IntKind.i64.wrap (IntKind.i64.wrap (IntKind.i64.wrap (s + x.sp.size) + x.lo.size) + x.va.size)
def bytesW (e : Ev) : Int := e.ats.foldl atW (IntKind.i64.wrap (IntKind.i64.wrap ((e.sp.size : Int) + e.lo.size) + e.tx.size))
/-- One event more. -/
def evW (s : Int) (e : Ev) : Int := IntKind.i64.wrap (IntKind.i64.wrap (s + bytesW e) + e.n)
theorem bytesW_of {e : Ev} {a b : Int} (h1 : IntKind.i64.wrap ((e.sp.size : Int) + e.lo.size) = a) (h2 : IntKind.i64.wrap (a + e.tx.size) = b) : e.ats.foldl atW b = bytesW e := by subst h1; subst h2; rfl
theorem atW_of {s : Int} {x : At} {a b c : Int} (h1 : IntKind.i64.wrap (s + x.sp.size) = a) (h2 : IntKind.i64.wrap (a + x.lo.size) = b) (h3 : IntKind.i64.wrap (b + x.va.size) = c) : atW s x = c := by subst h1; subst h2; subst h3; rfl
theorem evW_of {s : Int} {e : Ev} {a b : Int} (h1 : IntKind.i64.wrap (s + bytesW e) = a) (h2 : IntKind.i64.wrap (a + e.n) = b) : evW s e = b := by subst h1; subst h2; rfl
/-- Are events more than statements ask, as Go reckons? -/
def greatW (n : Nat) (l : List Ev) : Bool := decide (100 < n) || decide (5000 < l.foldl evW 0)
theorem greatW_le {n : Nat} {l : List Ev} (h : greatW n l = false) : n ≤ 100 := by
  unfold greatW at h
  simp at h
  omega
theorem atW_take (l : List At) (s : Int) (k : Nat) (x : At) (h : l[k]? = some x) : (l.take (k + 1)).foldl atW s = atW ((l.take k).foldl atW s) x := by
  rw [List.take_add_one, h]; simp
theorem evW_take (l : List Ev) (s : Int) (k : Nat) (x : Ev) (h : l[k]? = some x) : (l.take (k + 1)).foldl evW s = evW ((l.take k).foldl evW s) x := by
  rw [List.take_add_one, h]; simp
set_option maxHeartbeats 2000000 in
theorem evBytesW_any (e : Ev) (w : World) (hok : EvOk w e) :
    Calls Tryd.prog 27 #[.agg #[.int .i64 e.k, .string e.sp, .string e.lo, .slice e.A e.n e.c, .string e.tx]] w (fun x w' => x = .returned (.int .i64 (bytesW e)) ∧ Below w.heap.size w w') := by
  obtain ⟨W, hW, hB0, c0, c1, c2, c3, c4⟩ := evBox w e 40
  have H := Lib.hid (hok.1.below hB0)
  have B := Lib.hid hB0
  have hn9 : e.n ≤ 9223372036854775807 := Nat.le_trans hok.2.1 hok.2.2
  obtain ⟨S1, s1⟩ : ∃ a, IntKind.i64.wrap ((e.sp.size : Int) + e.lo.size) = a := ⟨_, rfl⟩
  obtain ⟨S0, s2⟩ : ∃ a, IntKind.i64.wrap (S1 + e.tx.size) = a := ⟨_, rfl⟩
  have Z := Lib.hid (bytesW_of s1 s2)
  clear hok hB0
  go_enter Tryd.func27, Tryd.ntmps27
  go_wp2
  clear hW s1 s2
  go_loopw [3, 4] (fun s i wr => ∃ (k d : Nat), k ≤ e.n ∧ i = .int .i64 k ∧ s = .int .i64 ((e.ats.take k).foldl atW S0) ∧ wr = W.drewN d) (fun _ i _ => e.n - (intOf i).toNat)
  case atStart => exact ⟨0, 0, by omega, rfl, by simp, rfl⟩
  case round =>
    obtain ⟨k, d, hk, rfl, rfl, rfl⟩ := hrel
    by_cases hlt : k < e.n
    · obtain ⟨a, x, hA, hx, _, g0, g1, g2⟩ := H.out.2 k hlt
      have b0 : (0 : Int) ≤ (k : Int) := by omega
      have b1 : (k : Int) < (e.n : Int) := by omega
      have T := Lib.hid (atW_take e.ats S0 k x hx)
      generalize (e.ats.take k).foldl atW S0 = S at *
      obtain ⟨Y1, s3⟩ : ∃ a, IntKind.i64.wrap (S + x.sp.size) = a := ⟨_, rfl⟩
      obtain ⟨Y2, s4⟩ : ∃ a, IntKind.i64.wrap (Y1 + x.lo.size) = a := ⟨_, rfl⟩
      obtain ⟨Y3, s5⟩ : ∃ a, IntKind.i64.wrap (Y2 + x.va.size) = a := ⟨_, rfl⟩
      have TW := Lib.hid (T.out.trans (atW_of s3 s4 s5))
      clear hx
      rw [hA] at c3 ⊢
      go_wp2_with fail
      go_quiet (fail)
      go_wp2
      go_roundw
      case rel => exact ⟨k + 1, _, by omega, by go_num, by rw [TW.out], rfl⟩
      case measure => simp [intOf]; omega
    · obtain rfl : k = e.n := by omega
      have hT : (e.ats.take e.n).foldl atW S0 = bytesW e := by rw [← Z.out, ← H.out.1, List.take_length]
      rw [hT]
      go_wp2
      go_ret
      exact ⟨rfl, B.out.trans (below_drewN _ _ _)⟩
set_option maxHeartbeats 2000000 in
theorem greatW_any (A : Option Addr) (n c : Nat) (l : List Ev) (w : World) (hl : EvsAt w A n l) (hn9 : n ≤ 9223372036854775807) :
    Calls Tryd.prog 12 #[.slice A n c] w (BelB (greatW n l) w) := by
  have L := Lib.hid hl
  have N := Lib.hid hl.1
  clear hl
  go_enter Tryd.func12, Tryd.ntmps12
  go_wp2
  go_loopw [3, 4] (fun s i wr => ∃ (k : Nat), k ≤ n ∧ k ≤ 200 ∧ i = .int .i64 k ∧ s = .int .i64 ((l.take k).foldl evW 0) ∧ Hid (Below w.heap.size w wr)) (fun _ i _ => n - (intOf i).toNat)
  case atStart => exact ⟨0, by omega, by omega, rfl, by simp, Below.refl _ _⟩
  case round =>
    obtain ⟨k, hk, hk2, rfl, rfl, HB⟩ := hrel
    by_cases hlt : k < n
    · by_cases hlt2 : k < 200
      · have b0 : (0 : Int) ≤ (k : Int) := by omega
        have b1 : (k : Int) < (n : Int) := by omega
        have b2 : (k : Int) < 200 := by omega
        obtain ⟨a, e, rfl, hx, he, hok⟩ := L.out.2 k hlt
        have T := Lib.hid (evW_take l 0 k e hx)
        have E := Lib.hid he
        have OK := Lib.hid hok
        have B0 := E.out.1
        generalize (l.take k).foldl evW 0 = S at *
        obtain ⟨Y1, s1⟩ : ∃ a, IntKind.i64.wrap (S + bytesW e) = a := ⟨_, rfl⟩
        obtain ⟨Y2, s2⟩ : ∃ a, IntKind.i64.wrap (Y1 + e.n) = a := ⟨_, rfl⟩
        have TW := Lib.hid (T.out.trans (evW_of s1 s2))
        clear hx he hok
        obtain ⟨_, g0, g1, g2, g3, g4⟩ := E.out.below (HB.out.trans (below_drew _ wr)) B0
        go_wp2_with fail
        go_region_held3 (fun w' => w'.cell? (a.add (k * 5)) = some (.int .i64 e.k) ∧ w'.cell? ⟨(a.add (k * 5)).block, (a.add (k * 5)).off + 1, none⟩ = some (.string e.sp) ∧ w'.cell? ⟨(a.add (k * 5)).block, (a.add (k * 5)).off + 2, none⟩ = some (.string e.lo) ∧ w'.cell? ⟨(a.add (k * 5)).block, (a.add (k * 5)).off + 3, none⟩ = some (.slice e.A e.n e.c) ∧ w'.cell? ⟨(a.add (k * 5)).block, (a.add (k * 5)).off + 4, none⟩ = some (.string e.tx))
          (first | exact ⟨g0, g1, g2, g3, g4⟩ | exact ⟨i0, i1, i2, i3, i4⟩)
          (first | (go_at_call 27; refine (evBytesW_any e _ (OK.out.below (HB.out.trans (below_drew _ wr)))).mono ?_; rintro x w2 ⟨rfl, hB1⟩; have hB2 := HB.out.trans ((below_drew _ wr).trans (hB1.mono HB.out.size)); obtain ⟨_, i0, i1, i2, i3, i4⟩ := E.out.below hB2 B0))
        go_wp2
        go_roundw
        case rel => exact ⟨k + 1, by omega, by omega, by go_num, by rw [TW.out], hB2⟩
        case measure => simp [intOf]; omega
      · have b2 : ¬ (k : Int) < 200 := by omega
        have b3 : (100 : Int) < (n : Int) := by omega
        have G : Hid (greatW n l = true) := by show _ = _; unfold greatW; simp; omega
        go_wp2
        go_ret
        exact ⟨by rw [G.out]; rfl, HB.out⟩
    · obtain rfl : k = n := by omega
      have hT : (l.take k).foldl evW 0 = l.foldl evW 0 := by rw [← N.out, List.take_length]
      rw [hT]
      have D := Lib.hid (show greatW k l = (decide (100 < k) || decide (5000 < l.foldl evW 0)) from rfl)
      generalize l.foldl evW 0 = S at *
      by_cases h1 : 100 < k
      · have b3 : (100 : Int) < (k : Int) := by omega
        have G : Hid (greatW k l = true) := by show _ = _; rw [D.out]; simp; omega
        go_wp2
        go_ret
        exact ⟨by rw [G.out]; rfl, HB.out⟩
      · have b3 : ¬ (100 : Int) < (k : Int) := by omega
        by_cases h2 : 5000 < S
        · have G : Hid (greatW k l = true) := by show _ = _; rw [D.out]; simp; omega
          go_wp2
          go_ret
          exact ⟨by rw [G.out]; rfl, HB.out⟩
        · have G : Hid (greatW k l = false) := by show _ = _; rw [D.out]; simp; omega
          go_wp2
          go_ret
          exact ⟨by rw [G.out]; rfl, HB.out⟩
end Go.Proofs.YtlifdmehejehjaaDoor
