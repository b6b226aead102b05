/- The reference's answers for layer 17: Entities, Notation, Notations. Conditions: at most 2^20 declarations. -/
import Derived.Test.YtapjmfgpdkghlaaDoorDtDcl
namespace Go.Proofs.YtapjmfgpdkghlaaDoor
open Go.RowKit Go.Maps
set_option linter.unusedVariables false
set_option linter.unusedSimpArgs false
/-- Is a declaration an entity that counts? -/
def takesE (pm : Bool) (d : DcP) : Bool := decide (d.ki = 1) && (d.pm == pm) && (pm || decide (¬ 0 < knownN d.en.na))
def stepE (pm : Bool) (l : List Ent) (d : DcP) : List Ent := if takesE pm d = true then addBy Ent.na l d.en else l
def entsR (ds : List DcP) (pm : Bool) : List Ent := ds.foldl (stepE pm) []
def isNot (s : ByteArray) (d : DcP) : Bool := decide (d.ki = 3) && decide (d.na = s)
/-- The place of a notation among the declarations. -/
def notI (ds : List DcP) (s : ByteArray) : Int := match ds.findIdx? (isNot s) with
  | some k => (k : Int)
  | none => -1
def cntN (ds : List DcP) : Nat → Nat
  | 0 => 0
  | k + 1 => cntN ds k + (match ds[k]? with
    | some d => if d.ki = 3 ∧ notI ds d.na = (k : Int) then 1 else 0
    | none => 0)
theorem foldl_next {α β : Type} (f : β → α → β) (b : β) {l : List α} {k : Nat} {x : α} (h : l[k]? = some x) : (l.take (k + 1)).foldl f b = f ((l.take k).foldl f b) x := by
  rw [List.take_add_one, h, List.foldl_append]; rfl
theorem ent_snoc (l : List Ent) (e : Ent) : entCells l ++ [.string e.na, .string e.tx, .bool e.out, .string e.pu, .string e.sy, .string e.no] = entCells (l ++ [e]) := by
  unfold entCells
  rw [List.flatMap_append]
  simp [Ent.cells]
theorem rfindV {base : Nat} {v : Value} {l : List Ent} {w : World} (s : ByteArray) (h : w.ownsRow base 46 6 v l.length (entCells l)) (hn : l.length ≤ 9223372036854775807) :
    Calls Tryd.prog 22 #[v, .string s] w (RetI (findI (l.map Ent.na) s) w) := by
  obtain ⟨A, c, hv, _⟩ := own_shapeD h
  subst hv
  exact rfind_any A l.length c l s w (EnsAt.of_own h) hn
theorem findI_lt (ns : List ByteArray) (s : ByteArray) : findI ns s < 0 ↔ hasT ns s = false := by
  unfold findI
  split
  · rename_i h; rw [h]; constructor
    · intro h2; omega
    · intro h2; cases h2
  · rename_i h; constructor
    · intro _; simpa using h
    · intro _; decide
theorem stepE_len (pm : Bool) (l : List Ent) (d : DcP) : (stepE pm l d).length ≤ l.length + 1 := by
  unfold stepE
  split
  · exact addBy_len _ _ _
  · omega
theorem foldE_len (pm : Bool) (ds : List DcP) : ∀ l : List Ent, (ds.foldl (stepE pm) l).length ≤ l.length + ds.length := by
  induction ds with
  | nil => intro l; exact Nat.le_refl _
  | cons d ds ih =>
    intro l
    have h1 := ih (stepE pm l d)
    have h2 := stepE_len pm l d
    simp only [List.foldl_cons, List.length_cons]
    omega
set_option maxRecDepth 100000 in
set_option maxHeartbeats 8000000 in
theorem rents_f (A : Option Addr) (n c : Nat) (l : List Dc) (w : World) (h : DcsAt w A n l) (hn : n ≤ 1048576) : Calls Tryd.prog 16 #[.slice A n c, .bool false] w (TellEns (entsR (l.map Dc.pl) false) w) := by
  obtain ⟨i0, hi0, hz0, hz1, hz2⟩ := info_partsD Tryd.infoDEn
  have DS := Lib.hid h
  clear h
  go_enter Tryd.func16, Tryd.ntmps16
  go_wp2
  go_loopw [5, 6] (fun o i wr => ∃ (k : Nat) (v : Value) (es : List Ent), k ≤ n ∧ i = .int .i64 k ∧ v = o ∧ Hid (es = ((l.map Dc.pl).take k).foldl (stepE false) []) ∧ Hid (wr.ownsRow w.heap.size 46 6 v es.length (entCells es)) ∧ Hid (Below w.heap.size w wr)) (fun _ i _ => n - (intOf i).toNat)
  case atStart => exact ⟨0, _, [], by omega, rfl, rfl, rfl, World.ownsRow_nil _ _ _ _, Below.refl _ _⟩
  case round =>
    obtain ⟨k, v, es, hk, rfl, rfl, HE, HO, HB⟩ := hrel
    by_cases hlt : k < n
    · obtain ⟨a, d, rfl, hx, g, _⟩ := (DcsAt.below (w := w) DS.out HB.out).2 k hlt
      obtain ⟨_, g0, g1, g2, g3, g4, g5, g6, g7, g8, g9, g10, g11, g12⟩ := g
      have b0 : (0 : Int) ≤ (k : Int) := by omega
      have b1 : (k : Int) < (n : Int) := by omega
      have hdk : (l.map Dc.pl)[k]? = some d.pl := by rw [List.getElem?_map, hx]; rfl
      have hnext := foldl_next (stepE false) [] hdk
      have hel : es.length ≤ 1048576 := by
        have h1 := foldE_len false ((l.map Dc.pl).take k) []
        rw [← HE.out, List.length_take] at h1
        simp at h1; omega
      have z1 := HB.out.size
      have hno : takesE false d.pl = false → es = ((l.map Dc.pl).take (k + 1)).foldl (stepE false) [] := fun ht => by rw [hnext, ← HE.out]; unfold stepE; rw [if_neg (by rw [ht]; decide)]
      by_cases h1 : d.ki = 1
      · by_cases hp : d.pm = true
        · have HE2 := Lib.hid (hno (by unfold takesE; rw [show d.pl.pm = true from hp]; simp))
          rw [hp] at g2
          clear hno hnext hdk hx hp
          go_wp2
          go_roundw
          case rel => exact ⟨k + 1, v, es, by omega, by go_num, rfl, HE2, HO, HB⟩
          case measure => simp [intOf]; omega
        · have hp : d.pm = false := by simpa using hp
          rw [hp] at g2
          have F := Lib.hid (rfindV d.en.na HO.out (by omega))
          have C := Lib.hid (rknown_any d.en.na wr)
          by_cases hkn : 0 < knownN d.en.na
          · have HE2 := Lib.hid (hno (by unfold takesE; rw [decide_eq_false (show ¬ ¬ 0 < knownN d.pl.en.na from fun h => h hkn)]; simp))
            clear hno hnext hdk hx hp F
            go_wp2_with fail
            refine C.out.mono ?_
            rintro e w3 ⟨rfl, rfl⟩
            clear C
            go_wp2
            go_roundw
            case rel => exact ⟨k + 1, v, es, by omega, by go_num, rfl, HE2, HO, HB⟩
            case measure => simp [intOf]; omega
          · have ht : takesE false d.pl = true := by unfold takesE; rw [show d.pl.pm = false from hp, decide_eq_true (show d.pl.ki = 1 from h1), decide_eq_true (show ¬ 0 < knownN d.pl.en.na from hkn)]; rfl
            clear hp hno
            go_wp2_with fail
            refine C.out.mono ?_
            rintro e w3 ⟨rfl, rfl⟩
            clear C
            go_wp2_with fail
            refine F.out.mono ?_
            rintro e w4 ⟨rfl, rfl⟩
            clear F
            cases hh : hasT (es.map Ent.na) d.en.na with
            | true =>
              have hlt0 : ¬ findI (es.map Ent.na) d.en.na < 0 := fun h => by rw [(findI_lt _ _).1 h] at hh; cases hh
              have HE2 := Lib.hid (show es = ((l.map Dc.pl).take (k + 1)).foldl (stepE false) [] by rw [hnext, ← HE.out]; unfold stepE addBy; rw [if_pos ht, if_pos (show hasT (es.map Ent.na) d.pl.en.na = true from hh)])
              clear hnext hdk hx ht hh
              go_wp2
              go_roundw
              case rel => exact ⟨k + 1, v, es, by omega, by go_num, rfl, HE2, HO, HB⟩
              case measure => simp [intOf]; omega
            | false =>
              have hlt0 : findI (es.map Ent.na) d.en.na < 0 := (findI_lt _ _).2 hh
              have HE2 := Lib.hid (show es ++ [d.en] = ((l.map Dc.pl).take (k + 1)).foldl (stepE false) [] by rw [hnext, ← HE.out]; unfold stepE addBy; rw [if_pos ht, if_neg (show ¬ hasT (es.map Ent.na) d.pl.en.na = true from by show ¬ hasT (es.map Ent.na) d.en.na = true; rw [hh]; decide)]; rfl)
              clear hnext hdk hx ht hh
              go_wp2_with (at_builtin; refine wpList_append_own_at _ rfl (.tmp 51) (.tmp 57) 37 rfl w.heap.size 46 i0 _ 6 88 Tryd.underlying37 hi0 hz0 hz1 hz2 rfl (by decide) _ _ _ rfl (HO.out.alloc _) ⟨wr.heap.size, 0, none⟩ 1 1 [.string d.en.na, .string d.en.tx, .bool d.en.out, .string d.en.pu, .string d.en.sy, .string d.en.no] rfl rfl (litCells _ _ _) ?k2 ?k3 ?k4 ?k5 ?_)
              case k2 => intro u hu
                         simp only [List.mem_cons, List.not_mem_nil, or_false] at hu
                         rcases hu with rfl | rfl | rfl | rfl | rfl | rfl <;> rfl
              case k3 => unfold maxLen; omega
              case k4 => omega
              case k5 => simp; omega
              intro o' w7 hown' hgrow _ hblk
              have HB7 := Lib.hid ((HB.out.alloc z1 _).grown hgrow (by simp; omega) (fun g hg => (HO.out.lt g hg).1))
              have HO7 : Hid (w7.ownsRow w.heap.size 46 6 o' (es ++ [d.en]).length (entCells (es ++ [d.en]))) := by
                show w7.ownsRow _ _ _ _ _ _
                rw [← ent_snoc, List.length_append]; exact hown'
              clear hown' hgrow hblk HO
              go_wp2
              go_roundw
              case rel => exact ⟨k + 1, o', es ++ [d.en], by omega, by go_num, rfl, HE2, HO7, HB7⟩
              case measure => simp [intOf]; omega
      · have HE2 := Lib.hid (hno (by unfold takesE; rw [decide_eq_false (show ¬ d.pl.ki = 1 from h1)]; rfl))
        clear hno hnext hdk hx
        go_wp2
        go_roundw
        case rel => exact ⟨k + 1, v, es, by omega, by go_num, rfl, HE2, HO, HB⟩
        case measure => simp [intOf]; omega
    · obtain rfl : k = n := by omega
      obtain ⟨A2, c2, hv, _⟩ := own_shapeD HO.out
      subst hv
      have e : es = entsR (l.map Dc.pl) false := by
        have := HE.out
        rwa [List.take_of_length_le (by rw [List.length_map, DS.out.1]; exact Nat.le_refl _)] at this
      have E := Lib.hid e
      clear e
      go_wp2
      go_ret
      rw [← E.out]
      exact ⟨A2, c2, rfl, HO.out, HB.out⟩
set_option maxRecDepth 100000 in
set_option maxHeartbeats 8000000 in
theorem rents_t (A : Option Addr) (n c : Nat) (l : List Dc) (w : World) (h : DcsAt w A n l) (hn : n ≤ 1048576) : Calls Tryd.prog 16 #[.slice A n c, .bool true] w (TellEns (entsR (l.map Dc.pl) true) w) := by
  obtain ⟨i0, hi0, hz0, hz1, hz2⟩ := info_partsD Tryd.infoDEn
  have DS := Lib.hid h
  clear h
  go_enter Tryd.func16, Tryd.ntmps16
  go_wp2
  go_loopw [5, 6] (fun o i wr => ∃ (k : Nat) (v : Value) (es : List Ent), k ≤ n ∧ i = .int .i64 k ∧ v = o ∧ Hid (es = ((l.map Dc.pl).take k).foldl (stepE true) []) ∧ Hid (wr.ownsRow w.heap.size 46 6 v es.length (entCells es)) ∧ Hid (Below w.heap.size w wr)) (fun _ i _ => n - (intOf i).toNat)
  case atStart => exact ⟨0, _, [], by omega, rfl, rfl, rfl, World.ownsRow_nil _ _ _ _, Below.refl _ _⟩
  case round =>
    obtain ⟨k, v, es, hk, rfl, rfl, HE, HO, HB⟩ := hrel
    by_cases hlt : k < n
    · obtain ⟨a, d, rfl, hx, g, _⟩ := (DcsAt.below (w := w) DS.out HB.out).2 k hlt
      obtain ⟨_, g0, g1, g2, g3, g4, g5, g6, g7, g8, g9, g10, g11, g12⟩ := g
      have b0 : (0 : Int) ≤ (k : Int) := by omega
      have b1 : (k : Int) < (n : Int) := by omega
      have hdk : (l.map Dc.pl)[k]? = some d.pl := by rw [List.getElem?_map, hx]; rfl
      have hnext := foldl_next (stepE true) [] hdk
      have hel : es.length ≤ 1048576 := by
        have h1 := foldE_len true ((l.map Dc.pl).take k) []
        rw [← HE.out, List.length_take] at h1
        simp at h1; omega
      have z1 := HB.out.size
      have hno : takesE true d.pl = false → es = ((l.map Dc.pl).take (k + 1)).foldl (stepE true) [] := fun ht => by rw [hnext, ← HE.out]; unfold stepE; rw [if_neg (by rw [ht]; decide)]
      by_cases h1 : d.ki = 1
      · by_cases hp : d.pm = false
        · have HE2 := Lib.hid (hno (by unfold takesE; rw [show d.pl.pm = false from hp]; simp))
          rw [hp] at g2
          clear hno hnext hdk hx hp
          go_wp2
          go_roundw
          case rel => exact ⟨k + 1, v, es, by omega, by go_num, rfl, HE2, HO, HB⟩
          case measure => simp [intOf]; omega
        · have hp : d.pm = true := by simpa using hp
          rw [hp] at g2
          have F := Lib.hid (rfindV d.en.na HO.out (by omega))
          have ht : takesE true d.pl = true := by unfold takesE; rw [show d.pl.pm = true from hp, decide_eq_true (show d.pl.ki = 1 from h1)]; rfl
          clear hp hno
          go_wp2_with fail
          refine F.out.mono ?_
          rintro e w4 ⟨rfl, rfl⟩
          clear F
          cases hh : hasT (es.map Ent.na) d.en.na with
          | true =>
            have hlt0 : ¬ findI (es.map Ent.na) d.en.na < 0 := fun h => by rw [(findI_lt _ _).1 h] at hh; cases hh
            have HE2 := Lib.hid (show es = ((l.map Dc.pl).take (k + 1)).foldl (stepE true) [] by rw [hnext, ← HE.out]; unfold stepE addBy; rw [if_pos ht, if_pos (show hasT (es.map Ent.na) d.pl.en.na = true from hh)])
            clear hnext hdk hx ht hh
            go_wp2
            go_roundw
            case rel => exact ⟨k + 1, v, es, by omega, by go_num, rfl, HE2, HO, HB⟩
            case measure => simp [intOf]; omega
          | false =>
            have hlt0 : findI (es.map Ent.na) d.en.na < 0 := (findI_lt _ _).2 hh
            have HE2 := Lib.hid (show es ++ [d.en] = ((l.map Dc.pl).take (k + 1)).foldl (stepE true) [] by rw [hnext, ← HE.out]; unfold stepE addBy; rw [if_pos ht, if_neg (show ¬ hasT (es.map Ent.na) d.pl.en.na = true from by show ¬ hasT (es.map Ent.na) d.en.na = true; rw [hh]; decide)]; rfl)
            clear hnext hdk hx ht hh
            go_wp2_with (at_builtin; refine wpList_append_own_at _ rfl (.tmp 51) (.tmp 57) 37 rfl w.heap.size 46 i0 _ 6 88 Tryd.underlying37 hi0 hz0 hz1 hz2 rfl (by decide) _ _ _ rfl (HO.out.alloc _) ⟨wr.heap.size, 0, none⟩ 1 1 [.string d.en.na, .string d.en.tx, .bool d.en.out, .string d.en.pu, .string d.en.sy, .string d.en.no] rfl rfl (litCells _ _ _) ?k2 ?k3 ?k4 ?k5 ?_)
            case k2 => intro u hu
                       simp only [List.mem_cons, List.not_mem_nil, or_false] at hu
                       rcases hu with rfl | rfl | rfl | rfl | rfl | rfl <;> rfl
            case k3 => unfold maxLen; omega
            case k4 => omega
            case k5 => simp; omega
            intro o' w7 hown' hgrow _ hblk
            have HB7 := Lib.hid ((HB.out.alloc z1 _).grown hgrow (by simp; omega) (fun g hg => (HO.out.lt g hg).1))
            have HO7 : Hid (w7.ownsRow w.heap.size 46 6 o' (es ++ [d.en]).length (entCells (es ++ [d.en]))) := by
              show w7.ownsRow _ _ _ _ _ _
              rw [← ent_snoc, List.length_append]; exact hown'
            clear hown' hgrow hblk HO
            go_wp2
            go_roundw
            case rel => exact ⟨k + 1, o', es ++ [d.en], by omega, by go_num, rfl, HE2, HO7, HB7⟩
            case measure => simp [intOf]; omega
      · have HE2 := Lib.hid (hno (by unfold takesE; rw [decide_eq_false (show ¬ d.pl.ki = 1 from h1)]; rfl))
        clear hno hnext hdk hx
        go_wp2
        go_roundw
        case rel => exact ⟨k + 1, v, es, by omega, by go_num, rfl, HE2, HO, HB⟩
        case measure => simp [intOf]; omega
    · obtain rfl : k = n := by omega
      obtain ⟨A2, c2, hv, _⟩ := own_shapeD HO.out
      subst hv
      have e : es = entsR (l.map Dc.pl) true := by
        have := HE.out
        rwa [List.take_of_length_le (by rw [List.length_map, DS.out.1]; exact Nat.le_refl _)] at this
      have E := Lib.hid e
      clear e
      go_wp2
      go_ret
      rw [← E.out]
      exact ⟨A2, c2, rfl, HO.out, HB.out⟩
end Go.Proofs.YtapjmfgpdkghlaaDoor
