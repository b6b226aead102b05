/- The contract of fetch's New. Conditions: internal/bytealg.MaxLen holds an int; at most 2^20 answers and patterns. -/
import Derived.Test.YtkneafpmgbgalaaGreatDoorFetB
import Derived.Test.YtkneafpmgbgalaaGreatDoorOrPut
import Derived.Test.YtkneafpmgbgalaaGreatDoorAllowList
import Derived.Test.YtkneafpmgbgalaaGreatDoorShelf
import Derived.Deep.QuietTactic
import Derived.Deep.RegionHeld3
import Derived.Deep.Cut
namespace Go.Proofs.YtkneafpmgbgalaaGreatDoor
open Go.RowKit Go.Maps Go.Proofs.YtkneafpmgbgalaaGreatDoor.UriPlain
set_option linter.unusedVariables false
set_option linter.unusedSimpArgs false
def limB (n : Int) : Bool := decide (0 ≤ n) && decide (n ≤ 1099511627776)
def RetLim (b : Bool) (w : World) (e : Ending) (w' : World) : Prop := e = .returned (.bool b) ∧ w = w'
theorem limit_any (n : Int) (w : World) : Calls Tryz.prog 21 #[.int .i64 n] w (RetLim (limB n) w) := by
  by_cases h1 : 0 ≤ n
  · by_cases h2 : n ≤ 1099511627776
    · have hb : limB n = true := by unfold limB; simp [h1, h2]
      rw [hb]
      clear hb
      go_enter Tryz.func21, Tryz.ntmps21
      go_wp2
      go_ret
      exact ⟨rfl, rfl⟩
    · have hb : limB n = false := by unfold limB; simp [h2]
      rw [hb]
      clear hb
      go_enter Tryz.func21, Tryz.ntmps21
      go_wp2
      go_ret
      exact ⟨rfl, rfl⟩
  · have hb : limB n = false := by unfold limB; simp [h1]
    rw [hb]
    clear hb
    go_enter Tryz.func21, Tryz.ntmps21
    go_wp2
    go_ret
    exact ⟨rfl, rfl⟩
/-- A configuration, as it is handed over. -/
def cfgV (a b mf mb f g : Int) (B : Option Addr) (p d : Nat) : Value := .agg #[.int .i64 a, .int .i64 b, .int .i64 f, .int .i64 g, .int .i64 mf, .int .i64 mb, .slice B p d]
def cfgCells (a b mf mb f g : Int) (B : Option Addr) (p d : Nat) : Array Value := #[.int .i64 a, .int .i64 b, .int .i64 f, .int .i64 g, .int .i64 mf, .int .i64 mb, .slice B p d]
theorem cfgBox (w : World) (a b mf mb f g : Int) (B : Option Addr) (p d : Nat) (t : TypeId) : ∃ W, w.alloc (.cells (cfgCells a b mf mb f g B p d) t) = W ∧ Below w.heap.size w W ∧ w.heap.size < W.heap.size ∧
    W.cell? ⟨w.heap.size, 4, none⟩ = some (.int .i64 mf) ∧ W.cell? ⟨w.heap.size, 5, none⟩ = some (.int .i64 mb) ∧ W.cell? ⟨w.heap.size, 6, none⟩ = some (.slice B p d) :=
  ⟨_, rfl, (Below.refl _ w).alloc (Nat.le_refl _) _, by simp, by simp [cfgCells], by simp [cfgCells], by simp [cfgCells]⟩
theorem cfgKeep {w : World} {k : Nat} {x y z : Value} {o : Obj} (h : w.cell? ⟨k, 4, none⟩ = some x ∧ w.cell? ⟨k, 5, none⟩ = some y ∧ w.cell? ⟨k, 6, none⟩ = some z) (hk : k < w.heap.size) :
    (w.alloc o).cell? ⟨k, 4, none⟩ = some x ∧ (w.alloc o).cell? ⟨k, 5, none⟩ = some y ∧ (w.alloc o).cell? ⟨k, 6, none⟩ = some z :=
  have hb : Below w.heap.size w (w.alloc o) := (Below.refl _ w).alloc (Nat.le_refl _) _
  ⟨(hb.cell (p := ⟨k, 4, none⟩) hk).trans h.1, (hb.cell (p := ⟨k, 5, none⟩) hk).trans h.2.1, (hb.cell (p := ⟨k, 6, none⟩) hk).trans h.2.2⟩
/-- A new guard. -/
structure NewTold (w : World) (mf mb : Int) (L : List ByteArray) (ps : List AnP) (e : Ending) (w' : World) (g : Nat) (s : GM) : Prop where
  ret : e = .returned (.tuple #[.pointer (some ⟨g, 0, none⟩), .int .i64 0])
  guard : GuardAt w' w.heap.size g s
  mf : s.mf = mf
  lf : s.lf = mb
  rd : s.rd = 0
  L : s.L = L
  ys : s.ys.map An.pl = putA ps
  ts : s.ts = []
  vs : s.vs = []
  keep : Below w.heap.size w w'
def NewToldE (mf mb : Int) (L : List ByteArray) (ps : List AnP) (w : World) (e : Ending) (w' : World) : Prop := ∃ g s, NewTold w mf mb L ps e w' g s
theorem new_fin {w V : World} {mf mb : Int} {L : List ByteArray} {ps : List AnP} {R2 A3 : Option Addr} {c2 c3 M : Nat} {ys : List An} (HX : Below w.heap.size w V) (OC : V.ownsRow w.heap.size 9 1 (.slice R2 L.length c2) L.length (txtCells L)) (OP : AnRow V w.heap.size (.slice A3 ys.length c3) ys)
    (OM : w.heap.size ≤ M ∧ V.ownsMap Tryz.prog 9 heldV M 0 (.map [])) (HY : ys.map An.pl = putA ps) {g : Nat} (hgV : g = V.heap.size) :
    NewTold w mf mb L ps (.returned (.tuple #[.pointer (some ⟨g, 0, none⟩), .int .i64 0])) (V.alloc (.cells #[.int .i64 mf, .int .i64 mb, .int .i64 0, .slice R2 L.length c2, .slice A3 ys.length c3, .slice none 0 0, .map (some M)] 58)) g
      (GM.mk mf mb 0 R2 L.length c2 L A3 c3 ys (.slice none 0 0) M 0 (.map []) [] []) := by
  subst hgV
  have e1 : Below V.heap.size V (V.alloc (.cells #[.int .i64 mf, .int .i64 mb, .int .i64 0, .slice R2 L.length c2, .slice A3 ys.length c3, .slice none 0 0, .map (some M)] 58)) := (Below.refl V.heap.size V).alloc (Nat.le_refl _) _
  exact ⟨rfl, ⟨heap_alloc_new V _, HX.size, ownF_below OC e1, OP.below e1, World.ownsRow_nil _ _ _ _, .inl rfl, mapV_below OM.2 e1, OM.1, Nat.le_refl _, SeenMap.nil, rfl, by simp⟩, rfl, rfl, rfl, rfl, HY, rfl, rfl, HX.trans (e1.mono HX.size)⟩
set_option maxRecDepth 100000 in
set_option maxHeartbeats 8000000 in
theorem new_ok (a b mf mb f g0 : Int) (B : Option Addr) (p d : Nat) (L : List ByteArray) (A : Option Addr) (n c : Nat) (l : List An) (w : World) (m : Int) (h1 : limB mf = true) (h2 : limB mb = true) (h3 : checkE L = 0) (h4 : n ≤ 256)
    (hL : TsAt w B p L) (hp : p ≤ 1048576) (hS : Shorts L) (hl : AnsAt w A n l) (hsz : ∀ x ∈ l, x.n ≤ 1048576) (hm : w.cell? ⟨0, 0, none⟩ = some (.int .i64 m)) :
    Calls Tryz.prog 9 #[cfgV a b mf mb f g0 B p d, .slice A n c] w (NewToldE mf mb L (l.map An.pl) w) := by
  obtain rfl := hl.1
  obtain ⟨W, hW, hbW, hltW, c4, c5, c6⟩ := cfgBox w a b mf mb f g0 B p d 24
  have hmm := @run_makeMap Tryz.prog
  have K1 := Lib.hid (fun V => limit_any mf V)
  have K2 := Lib.hid (fun V => limit_any mb V)
  rw [h1] at K1
  rw [h2] at K2
  have K3 := Lib.hid (acheck_any B p d L W m (hL.below hbW) hp hS (max0_below hm hbW))
  rw [h3] at K3
  have HL := Lib.hid hL
  have HA := Lib.hid hl
  have HS := Lib.hid hS
  have HSZ := Lib.hid hsz
  have HM := Lib.hid hm
  have HBW := Lib.hid hbW
  have HC := Lib.hid (And.intro c4 (And.intro c5 c6))
  unfold cfgCells at hW
  unfold cfgV
  clear hl hL hm hS hsz h1 h2 h3 hbW
  go_enter Tryz.func9, Tryz.ntmps9
  go_upto_region 8 with (first
    | (go_at_call 21
       first
       | (refine (K1.out _).mono ?_
          rintro e w1 ⟨rfl, rfl⟩)
       | (refine (K2.out _).mono ?_
          rintro e w1 ⟨rfl, rfl⟩))
    | (go_at_call 22
       refine K3.out.mono ?_
       rintro e w1 ⟨rfl, hB1⟩))
  have HX := Lib.hid (HBW.out.trans (hB1.mono HBW.out.size))
  have hcc := And.intro ((hB1.cell (p := ⟨w.heap.size, 4, none⟩) hltW).trans HC.out.1) (And.intro ((hB1.cell (p := ⟨w.heap.size, 5, none⟩) hltW).trans HC.out.2.1) ((hB1.cell (p := ⟨w.heap.size, 6, none⟩) hltW).trans HC.out.2.2))
  have CC := Lib.hid (fun V (hb : Below w.heap.size w V) => cloneStrs_any B p d L V (HL.out.below hb) hp)
  have CP := Lib.hid (fun V (hb : Below w.heap.size w V) => put_any A l.length c l V m (HA.out.below hb) (by omega) HSZ.out (max0_below HM.out hb))
  have hs1 := hB1.size
  clear hB1 c4 c5 c6
  go_region_held3 (fun w' => w'.cell? ⟨w.heap.size, 4, none⟩ = some (.int .i64 mf) ∧ w'.cell? ⟨w.heap.size, 5, none⟩ = some (.int .i64 mb) ∧ w'.cell? ⟨w.heap.size, 6, none⟩ = some (.slice B p d))
    (first | exact hcc | exact cfgKeep hcc (Nat.lt_of_lt_of_le (Nat.lt_of_lt_of_le (Nat.lt_of_lt_of_le hltW hs1) hs2) hs3) | exact cfgKeep hcc (Nat.lt_of_lt_of_le (Nat.lt_of_lt_of_le hltW hs1) hs2) | exact cfgKeep hcc (Nat.lt_of_lt_of_le hltW hs1) | exact cfgKeep (cfgKeep hcc (Nat.lt_of_lt_of_le (Nat.lt_of_lt_of_le (Nat.lt_of_lt_of_le hltW hs1) hs2) hs3)) (Nat.lt_of_lt_of_le (Nat.lt_of_lt_of_le (Nat.lt_of_lt_of_le (Nat.lt_of_lt_of_le hltW hs1) hs2) hs3) (by simp)))
    (first
    | (go_at_call 23
       first
       | (have HX := Lib.hid (HX.out.trans (below_drewF _ _))
          refine (CC.out w1.drew HX.out).mono ?_)
       | (have OM1 := Lib.hid (And.intro HX.out.size (World.ownsMap_made w1.drew Tryz.prog 9 heldV))
          have e1 := ((Below.refl w1.drew.heap.size w1.drew).alloc (Nat.le_refl _) (.map #[] 0))
          have hcc := cfgKeep (w := w1.drew) (o := .map #[] 0) hcc (Nat.lt_of_lt_of_le hltW hs1)
          have hs1 := Nat.le_trans hs1 e1.size
          have HX := Lib.hid ((HX.out.trans (below_drewF _ _)).trans (e1.mono HX.out.size))
          refine (CC.out _ HX.out).mono ?_)
       rintro e w2 ⟨R2, c2, rfl, hown2, hB2⟩
       first
       | (have OM2 := Lib.hid (And.intro OM1.out.1 (mapV_below OM1.out.2 hB2)))
       | skip
       have HX2 := Lib.hid (HX.out.trans (hB2.mono HX.out.size))
       have OC2 := Lib.hid (ownF_base hown2 HX.out.size)
       clear hown2
       have hs2 := hB2.size
       have hcc := And.intro ((hB2.cell (p := ⟨w.heap.size, 4, none⟩) (Nat.lt_of_lt_of_le hltW hs1)).trans hcc.1) (And.intro ((hB2.cell (p := ⟨w.heap.size, 5, none⟩) (Nat.lt_of_lt_of_le hltW hs1)).trans hcc.2.1) ((hB2.cell (p := ⟨w.heap.size, 6, none⟩) (Nat.lt_of_lt_of_le hltW hs1)).trans hcc.2.2))
       clear hB2)
    | (go_at_call 24
       first
       | (refine (CP.out w2 HX2.out).mono ?_)
       | (have OM2 := Lib.hid (And.intro HX2.out.size (World.ownsMap_made w2 Tryz.prog 9 heldV))
          have e2 := ((Below.refl w2.heap.size w2).alloc (Nat.le_refl _) (.map #[] 0))
          have hcc := cfgKeep (o := .map #[] 0) hcc (Nat.lt_of_lt_of_le (Nat.lt_of_lt_of_le hltW hs1) hs2)
          have hs2 := Nat.le_trans hs2 e2.size
          have OC2 := Lib.hid (ownF_below OC2.out e2)
          have HX2 := Lib.hid (HX2.out.trans (e2.mono HX2.out.size))
          refine (CP.out _ HX2.out).mono ?_)
       rintro e w3 ⟨A3, c3, ys, rfl, hys, -, -, hrow, hB3⟩
       first
       | (have OM3 := Lib.hid (And.intro OM2.out.1 (mapV_below OM2.out.2 hB3)))
       | skip
       have HX3 := Lib.hid (HX2.out.trans (hB3.mono HX2.out.size))
       have OC3 := Lib.hid (ownF_below OC2.out hB3)
       have OP3 : Hid (AnRow w3 w.heap.size (.slice A3 ys.length c3) ys) := Lib.hid ⟨ownF_base hrow.1 HX2.out.size, fun x hx => (hrow.2 x hx).base HX2.out.size⟩
       have HYS := Lib.hid hys
       have HB3 := Lib.hid hB3
       have hs3 := hB3.size
       have hcc := And.intro ((hB3.cell (p := ⟨w.heap.size, 4, none⟩) (Nat.lt_of_lt_of_le (Nat.lt_of_lt_of_le hltW hs1) hs2)).trans hcc.1) (And.intro ((hB3.cell (p := ⟨w.heap.size, 5, none⟩) (Nat.lt_of_lt_of_le (Nat.lt_of_lt_of_le hltW hs1) hs2)).trans hcc.2.1) ((hB3.cell (p := ⟨w.heap.size, 6, none⟩) (Nat.lt_of_lt_of_le (Nat.lt_of_lt_of_le hltW hs1) hs2)).trans hcc.2.2))
       clear hB3 hrow hys))
  all_goals
    go_wp2
    go_ret2
    first
    | exact ⟨_, _, new_fin HX3.out OC3.out OP3.out OM3.out HYS.out (by simp)⟩
    | exact ⟨_, _, new_fin (HX3.out.trans (((Below.refl w3.heap.size w3).alloc (Nat.le_refl _) (.map #[] 0)).mono HX3.out.size)) (ownF_below OC3.out ((Below.refl w3.heap.size w3).alloc (Nat.le_refl _) (.map #[] 0))) (OP3.out.below ((Below.refl w3.heap.size w3).alloc (Nat.le_refl _) (.map #[] 0))) (And.intro HX3.out.size (World.ownsMap_made w3 Tryz.prog 9 heldV)) HYS.out (by simp)⟩
end Go.Proofs.YtkneafpmgbgalaaGreatDoor
