/- The contracts of oracle.Only and of the reference's Only: the answers that are allowed. Conditions: at most 2^20 answers, patterns, bytes of each; internal/bytealg.MaxLen holds an int. -/
import Derived.Test.YtkneafpmgbgalaaGreatDoorOrSame
import Derived.Test.YtkneafpmgbgalaaGreatDoorAllowFindsLaw
namespace Go.Proofs.YtkneafpmgbgalaaGreatDoor
open Go.RowKit Go.Maps Go.Proofs.YtkneafpmgbgalaaGreatDoor.UriPlain
set_option linter.unusedVariables false
set_option linter.unusedSimpArgs false
def keepA (L : List ByteArray) (a : AnP) : Bool := findB L a.id.data.toList
def onlyA (L : List ByteArray) (ps : List AnP) : List AnP := ps.filter (keepA L)
theorem onlyA_yes {L : List ByteArray} {ps : List AnP} {a : AnP} (h : keepA L a = true) : onlyA L (ps ++ [a]) = onlyA L ps ++ [a] := by unfold onlyA; rw [List.filter_append]; simp [h]
theorem onlyA_no {L : List ByteArray} {ps : List AnP} {a : AnP} (h : keepA L a = false) : onlyA L (ps ++ [a]) = onlyA L ps := by unfold onlyA; rw [List.filter_append]; simp [h]
theorem onlyA_len (L : List ByteArray) (ps : List AnP) : (onlyA L ps).length ≤ ps.length := List.length_filter_le _ _
theorem onlyA_only (L : List ByteArray) (ps : List AnP) : onlyA L (onlyA L ps) = onlyA L ps := by unfold onlyA; rw [List.filter_filter]; simp
theorem max0_below {w w' : World} {m : Int} (hm : w.cell? ⟨0, 0, none⟩ = some (.int .i64 m)) (hb : Below w.heap.size w w') : w'.cell? ⟨0, 0, none⟩ = some (.int .i64 m) := (hb.cell (p := ⟨0, 0, none⟩) (World.block_lt_of_cell? _ _ hm)).trans hm
set_option maxRecDepth 100000 in
set_option maxHeartbeats 8000000 in
theorem ronly_any (A : Option Addr) (n c : Nat) (l : List An) (B : Option Addr) (p d : Nat) (L : List ByteArray) (w : World) (hl : AnsAt w A n l) (hn : n ≤ 1048576) (hL : TsAt w B p L) (hp : p ≤ 1048576) (hS : Shorts L) :
    Calls Tryz.prog 10 #[.slice A n c, .slice B p d] w (TellAnsR (onlyA L (l.map An.pl)) w) := by
  obtain ⟨i0, hi0, hz0, hz1, hz2⟩ := info_partsO Tryz.infoAns
  obtain rfl := hl.1
  have HA := Lib.hid hl
  have HT := Lib.hid hL
  have HS := Lib.hid hS
  clear hl hL hS
  go_enter Tryz.func10, Tryz.ntmps10
  go_wp2
  go_loopw [5, 6] (fun o i wr => ∃ (k : Nat) (v : Value) (ys : List An), v = o ∧ k ≤ l.length ∧ i = .int .i64 k ∧ Hid (ys.map An.pl = onlyA L ((l.take k).map An.pl)) ∧ Hid (wr.ownsRow w.heap.size 51 3 v ys.length (anCells ys)) ∧ Hid (∀ y ∈ ys, AnOk w y) ∧ Hid (Below w.heap.size w wr)) (fun _ i _ => l.length - (intOf i).toNat)
  case atStart => exact ⟨0, _, [], rfl, by omega, rfl, rfl, World.ownsRow_nil _ _ _ _, (by show ∀ y ∈ [], _; simp), Below.refl _ _⟩
  case round =>
    obtain ⟨k, v, ys, rfl, hk', rfl, HY, HO, HOK, HB⟩ := hrel
    by_cases hlt : k < l.length
    · obtain ⟨a, x, rfl, hx, hat, hok⟩ := HA.out.2 k hlt
      have b0 : (0 : Int) ≤ (k : Int) := by omega
      have b1 : (k : Int) < (l.length : Int) := by omega
      obtain ⟨-, g0, g1, g2⟩ := hat.below HB.out hat.1
      have F := rfind22_any B p d L x.id wr (HT.out.below HB.out) hp HS.out
      have hst : (l.take (k + 1)).map An.pl = (l.take k).map An.pl ++ [x.pl] := by rw [List.take_add_one, hx, List.map_append]; rfl
      have hyl : ys.length ≤ k := by
        have h := congrArg List.length HY.out
        have h2 := onlyA_len L ((l.take k).map An.pl)
        rw [List.length_map] at h
        rw [List.length_map, List.length_take] at h2
        omega
      have OK := Lib.hid hok
      have HST := Lib.hid hst
      have HAT := Lib.hid hat
      clear hx hat hok hst
      cases hkp : findB L x.id.data.toList with
      | true =>
        rw [hkp] at F
        have F := Lib.hid F
        have HYN : Hid ((ys.map An.pl) ++ [x.pl] = onlyA L ((l.take (k + 1)).map An.pl)) := by show _ = _; rw [HST.out, onlyA_yes (show keepA L x.pl = true from hkp), HY.out]
        clear hkp
        go_wp2_with fail
        refine F.out.mono ?_
        rintro e w3 ⟨rfl, hB3⟩
        have HB3 := Lib.hid (HB.out.trans (hB3.mono HB.out.size))
        have HO3 := Lib.hid (ownRowA_below HO.out hB3)
        obtain ⟨-, g0, g1, g2⟩ := HAT.out.below HB3.out HAT.out.1
        have hz3 := HB3.out.size
        clear hB3 F HO HB
        go_wp2_with (at_builtin; refine wpList_append_own_at _ rfl (.tmp 26) (.tmp 31) 25 rfl w.heap.size 51 i0 (.agg #[.string ⟨#[]⟩, .bool false, .slice none 0 0]) 3 48 Tryz.underlying25 hi0 hz0 hz1 hz2 rfl (by decide) _ _ _ rfl (HO3.out.alloc _) ⟨w3.heap.size, 0, none⟩ 1 1 [.string x.id, .bool x.ok, .slice x.D x.n x.c] rfl rfl (rowCell3A _ _ _ _ _) ?k2 ?k3 ?k4 ?k5 ?_)
        case k2 => exact three_newsA _ _ _ _ _
        case k3 => unfold maxLen; omega
        case k4 => omega
        case k5 => simp; omega
        intro o' w7 hown' hgrow _ hblk
        have HB7 := Lib.hid ((HB3.out.alloc hz3 _).grown hgrow (by simp; omega) (fun g hg => (HO3.out.lt g hg).1))
        have HO7 : Hid (w7.ownsRow w.heap.size 51 3 o' (ys ++ [x]).length (anCells (ys ++ [x]))) := by
          show World.ownsRow _ _ _ _ _ _ _
          rw [List.length_append, anCells_append]; exact hown'
        have HY7 : Hid ((ys ++ [x]).map An.pl = onlyA L ((l.take (k + 1)).map An.pl)) := by
          show _ = _
          rw [List.map_append, List.map_cons, List.map_nil]; exact HYN.out
        have HOK7 : Hid (∀ z ∈ ys ++ [x], AnOk w z) := by
          intro z hz
          rcases List.mem_append.1 hz with hz | hz
          · exact HOK.out z hz
          · simp at hz; subst hz; exact OK.out
        clear hown' hgrow hblk HO3 HB3 g0 g1 g2
        go_wp2
        go_roundw
        case rel => exact ⟨k + 1, _, ys ++ [x], rfl, by omega, by go_num, HY7, HO7, HOK7, HB7⟩
        case measure => simp [intOf]; omega
      | false =>
        rw [hkp] at F
        have F := Lib.hid F
        have HYN : Hid (ys.map An.pl = onlyA L ((l.take (k + 1)).map An.pl)) := by show _ = _; rw [HST.out, onlyA_no (show keepA L x.pl = false from hkp), HY.out]
        clear hkp
        go_wp2_with fail
        refine F.out.mono ?_
        rintro e w3 ⟨rfl, hB3⟩
        have HO3 := Lib.hid (ownRowA_below HO.out hB3)
        have HB3 := Lib.hid (HB.out.trans (hB3.mono HB.out.size))
        clear hB3 F HO HB g0 g1 g2
        go_wp2
        go_roundw
        case rel => exact ⟨k + 1, v, ys, rfl, by omega, by go_num, HYN, HO3, HOK, HB3⟩
        case measure => simp [intOf]; omega
    · obtain rfl : k = l.length := by omega
      have hy := HY.out
      rw [List.take_length] at hy
      have HY2 := Lib.hid hy
      obtain ⟨A2, c2, rfl, h1, h2⟩ := ownRowA_shape HO.out
      have HAT := Lib.hid (AnsAt.of_own HO.out (fun y hy => (HOK.out y hy).below HB.out))
      clear hy HY
      go_wp2
      go_ret
      exact ⟨A2, c2, ys, rfl, HY2.out, h1, h2, HAT.out, HB.out⟩
end Go.Proofs.YtkneafpmgbgalaaGreatDoor
