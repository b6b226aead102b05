/- The contracts of the reference's One, Same and Great of layer 23; the page's example. Conditions: internal/bytealg.MaxLen holds an int. -/
import Derived.Test.YtkpefendeonemaaDoorOrRef2
namespace Go.Proofs.YtkpefendeonemaaDoor
open Go.RowKit Go.Maps Go.Proofs.YtkpefendeonemaaDoor.UriPlain
set_option linter.unusedVariables false
set_option linter.unusedSimpArgs false
set_option maxRecDepth 100000 in
set_option maxHeartbeats 4000000 in
theorem one_same (y z : An) (w : World) (hy : AnOk w y) (hz : AnOk w z) (h : y.pl = z.pl) :
    Calls Tryd.prog 10 #[.agg #[.string y.id, .bool y.ok, .slice y.D y.n y.c], .agg #[.string z.id, .bool z.ok, .slice z.D z.n z.c]] w (BelB true w) := by
  obtain ⟨yi, yo, yD, yn, yc, ya⟩ := y
  obtain ⟨zi, zo, zD, zn, zc, za⟩ := z
  unfold An.pl at h
  injection h with h1 h2 h3
  dsimp only at h1 h2 h3
  subst h1 h2 h3
  obtain ⟨W, hW, hbW, hhW, hltW, c0, c1, c2⟩ := anBox w ⟨yi, yo, yD, yn, yc, ya⟩ 27
  obtain ⟨V, hV, hbV, hhV, hltV, d0, d1, d2⟩ := anBox W ⟨yi, yo, zD, zn, zc, ya⟩ 27
  have hb : Below w.heap.size w V := hbW.trans (hbV.mono (Nat.le_of_lt hltW))
  have e0 := (hbV.cell (p := ⟨w.heap.size, 0, none⟩) hltW).trans c0
  have e1 := (hbV.cell (p := ⟨w.heap.size, 1, none⟩) hltW).trans c1
  have e2 := (hbV.cell (p := ⟨w.heap.size, 2, none⟩) hltW).trans c2
  have k1 := convB V yD yn yc ya (hy.1.below hb)
  have k2 := convB V zD zn zc ya (hz.1.below hb)
  have HB := Lib.hid hb
  generalize strOfNums ya = s at *
  dsimp only at hW hV c0 c1 c2 d0 d1 d2 e0 e1 e2 ⊢
  clear hbW hhW hltW hbV hhV hltV hb hy hz
  go_enter Tryd.func10, Tryd.ntmps10
  go_wp2
  go_ret
  exact ⟨rfl, HB.out⟩
theorem below_drewA (B : Nat) (w : World) : Below B w w.drew := (Below.refl B w).trans ⟨rfl, rfl, rfl, Nat.le_refl _, fun _ _ => rfl⟩
theorem map_at {ys zs : List An} (h : ys.map An.pl = zs.map An.pl) {k : Nat} {y z : An} (hy : ys[k]? = some y) (hz : zs[k]? = some z) : y.pl = z.pl := by
  have h2 := congrArg (fun l => l[k]?) h
  simp only [List.getElem?_map, hy, hz, Option.map_some] at h2
  exact Option.some.inj h2
set_option maxRecDepth 100000 in
set_option maxHeartbeats 8000000 in
theorem same_any (A : Option Addr) (n c : Nat) (ys : List An) (A' : Option Addr) (n' c' : Nat) (zs : List An) (w : World) (hy : AnsAt w A n ys) (hz : AnsAt w A' n' zs) (h : ys.map An.pl = zs.map An.pl) (hn : n ≤ 9223372036854775806) :
    Calls Tryd.prog 11 #[.slice A n c, .slice A' n' c'] w (BelB true w) := by
  obtain rfl := hy.1
  obtain rfl := hz.1
  have hll : ys.length = zs.length := by have := congrArg List.length h; simpa using this
  rw [← hll] at hz ⊢
  have Y := Lib.hid hy
  have Z := Lib.hid hz
  have H := Lib.hid h
  clear hy hz h hll
  go_enter Tryd.func11, Tryd.ntmps11
  go_wp2
  go_loopw [5] (fun i wr => ∃ (k : Nat), k ≤ ys.length ∧ i = .int .i64 k ∧ Hid (Below w.heap.size w wr)) (fun i _ => ys.length - (intOf i).toNat)
  case atStart => exact ⟨0, by omega, rfl, Below.refl _ _⟩
  case round =>
    obtain ⟨k, hk', rfl, HB⟩ := hrel
    by_cases hlt : k < ys.length
    · obtain ⟨a, y, rfl, hy, hat, hok⟩ := Y.out.2 k hlt
      obtain ⟨a', z, rfl, hz, hat', hok'⟩ := Z.out.2 k hlt
      have b0 : (0 : Int) ≤ (k : Int) := by omega
      have b1 : (k : Int) < (ys.length : Int) := by omega
      have HBD := HB.out.trans (below_drewA w.heap.size wr)
      obtain ⟨-, g0, g1, g2⟩ := hat.below HBD hat.1
      obtain ⟨-, i0, i1, i2⟩ := hat'.below HBD hat'.1
      have O := Lib.hid (fun W (hb : Below w.heap.size w W) => one_same y z W (hok.below hb) (hok'.below hb) (map_at H.out hy hz))
      have HBD := Lib.hid HBD
      have HAT := Lib.hid hat
      have HAT' := Lib.hid hat'
      clear hy hz hat hat' hok hok'
      go_wp2_with fail
      go_region_held3 (fun w' => w'.cell? (a.add (k * 3)) = some (.string y.id) ∧ w'.cell? ⟨(a.add (k * 3)).block, (a.add (k * 3)).off + 1, none⟩ = some (.bool y.ok) ∧ w'.cell? ⟨(a.add (k * 3)).block, (a.add (k * 3)).off + 2, none⟩ = some (.slice y.D y.n y.c) ∧ w'.cell? (a'.add (k * 3)) = some (.string z.id) ∧ w'.cell? ⟨(a'.add (k * 3)).block, (a'.add (k * 3)).off + 1, none⟩ = some (.bool z.ok) ∧ w'.cell? ⟨(a'.add (k * 3)).block, (a'.add (k * 3)).off + 2, none⟩ = some (.slice z.D z.n z.c))
        (first | exact ⟨g0, g1, g2, i0, i1, i2⟩ | exact ⟨j0, j1, j2, l0, l1, l2⟩)
        (first
        | (go_at_call 10
           refine (O.out _ HBD.out).mono ?_
           rintro x w3 ⟨rfl, hB3⟩
           have HB3 := Lib.hid (HBD.out.trans (hB3.mono HBD.out.size))
           obtain ⟨-, j0, j1, j2⟩ := HAT.out.below HB3.out HAT.out.1
           obtain ⟨-, l0, l1, l2⟩ := HAT'.out.below HB3.out HAT'.out.1
           clear hB3))
      all_goals
        clear g0 g1 g2 i0 i1 i2 j0 j1 j2 l0 l1 l2
        go_wp2
        go_roundw
        case rel => exact ⟨k + 1, by omega, by go_num, HB3⟩
        case measure => simp [intOf]; omega
    · obtain rfl : k = ys.length := by omega
      go_wp2
      go_ret
      exact ⟨rfl, HB.out⟩
end Go.Proofs.YtkpefendeonemaaDoor
